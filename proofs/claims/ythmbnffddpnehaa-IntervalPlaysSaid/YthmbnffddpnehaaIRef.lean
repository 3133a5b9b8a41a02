/- What the reference's calls compute: Get, Remove and Meet. -/
import Derived.Test.YthmbnffddpnehaaIMet
import Derived.Deep.QuietTactic
import Derived.BigQuiet
namespace Go.Proofs.Ythmbnffddpnehaa
open Go.RowKit
set_option linter.unusedVariables false
set_option linter.unusedSimpArgs false
theorem results_cellK {P : Program} {fn : Func} {p : Tmp} {ty : TypeId} (h : fn.results = #[.cell p ty]) (tmps : Array Value) (w : World) (g : Nat) (t : TypeId) (cs : Array Value) (fr : Nat × Nat) (d : TypeDesc)
    (hp : tmps.getD p undef = .pointer (some ⟨g, 0, none⟩)) (hg : w.heap[g]? = some (.cells cs t fr))
    (hu : P.underlying ty = some d) (hd : (match d with | .struct _ | .array _ _ => true | _ => false) = true) (hi : (P.info? ty).map (·.size) = some cs.size) :
    (results fn tmps).run P w = .ok (.agg cs) w := by
  have hp' : tmps[p]?.getD undef = .pointer (some ⟨g, 0, none⟩) := by simpa using hp
  simp [results, h, hp', asAddr, Result.andThen, run_loadVar_row w g t ty cs fr d hg hu hd hi]
theorem results_cellK2 {P : Program} {fn : Func} {p u : Tmp} {ty : TypeId} (h : fn.results = #[.cell p ty, .tmp u]) (tmps : Array Value) (w : World) (g : Nat) (t : TypeId) (cs : Array Value) (fr : Nat × Nat) (d : TypeDesc)
    (hp : tmps.getD p undef = .pointer (some ⟨g, 0, none⟩)) (hg : w.heap[g]? = some (.cells cs t fr))
    (hu : P.underlying ty = some d) (hd : (match d with | .struct _ | .array _ _ => true | _ => false) = true) (hi : (P.info? ty).map (·.size) = some cs.size) :
    (results fn tmps).run P w = .ok (.tuple #[.agg cs, tmps.getD u undef]) w := by
  rw [results_cell_tmp h, hp]
  simp [asAddr, Result.andThen, run_loadVar_row w g t ty cs fr d hg hu hd hi]
/-- An interval of the reference's, in memory. -/
def RItAt (w : World) (g o : Nat) (x : It) : Prop := w.cell? ⟨g, o, none⟩ = some (.int .i64 x.id) ∧ w.cell? ⟨g, o + 1, none⟩ = some (.int .i64 x.f) ∧ w.cell? ⟨g, o + 2, none⟩ = some (.int .i64 x.t) ∧ w.cell? ⟨g, o + 3, none⟩ = some (.string x.v)
theorem RItAt.grow {w w' : World} {g o : Nat} {x : It} (h : RItAt w g o x) (hg : Grow w w') : RItAt w' g o x := ⟨hg.cell h.1, hg.cell h.2.1, hg.cell h.2.2.1, hg.cell h.2.2.2⟩
/-- A list of the reference's, read. -/
def RIts (w : World) (v : Value) (L : List It) : Prop := ∃ A c, v = .slice A L.length c ∧ L.length ≤ 1000000 ∧ L.length ≤ c ∧ (0 < L.length → ∃ g, A = some ⟨g, 0, none⟩ ∧ ∀ i (hi : i < L.length), RItAt w g (i * 4) L[i])
theorem RIts.grow {w w' : World} {v : Value} {L : List It} (h : RIts w v L) (hg : Grow w w') : RIts w' v L := by
  obtain ⟨A, c, e, h1, h2, h3⟩ := h
  refine ⟨A, c, e, h1, h2, fun h0 => ?_⟩
  obtain ⟨g, e2, h4⟩ := h3 h0
  exact ⟨g, e2, fun i hi => (h4 i hi).grow hg⟩
theorem RIts.nil (w : World) : RIts w (.slice none 0 0) [] := ⟨none, 0, rfl, by simp, by simp, fun h => by simp at h⟩
theorem RIts.of_own {w : World} {base : Nat} {e : TypeId} {v : Value} {L : List It} (h : w.ownsRow base e 4 v L.length (rCells L)) (hl : L.length ≤ 1000000) : RIts w v L := by
  rcases h.2 with ⟨rfl, h0⟩ | ⟨g, cap, cur, rfl, hb, hg, hnc, _⟩
  · obtain rfl := List.eq_nil_of_length_eq_zero h0
    exact RIts.nil w
  · refine ⟨_, cap, rfl, hl, hnc, fun h0 => ⟨g, rfl, fun i hi => ?_⟩⟩
    have e0 := rCells_at L i 0 hi (by omega)
    rw [Nat.add_zero] at e0
    exact ⟨(h.cellAt (i * 4) (by omega)).trans e0, (h.cellAt (i * 4 + 1) (by omega)).trans (rCells_at L i 1 hi (by omega)), (h.cellAt (i * 4 + 2) (by omega)).trans (rCells_at L i 2 hi (by omega)), (h.cellAt (i * 4 + 3) (by omega)).trans (rCells_at L i 3 hi (by omega))⟩
theorem RIts.take {w : World} {A : Option Addr} {n c : Nat} {L : List It} (h : RIts w (.slice A n c) L) (k : Nat) (hk : k ≤ L.length) : RIts w (.slice A k c) (L.take k) := by
  obtain ⟨A', c', e, h1, h2, h3⟩ := h
  cases e
  have hl : (L.take k).length = k := by rw [List.length_take]; omega
  refine ⟨A, c, by rw [hl], by omega, by omega, fun h0 => ?_⟩
  obtain ⟨g, e2, h4⟩ := h3 (by omega)
  refine ⟨g, e2, fun i hi => ?_⟩
  have := h4 i (by omega)
  simpa using this
theorem own_grow {w w' : World} {base : Nat} {e : TypeId} {size n : Nat} {v : Value} {xs : List Value} (h : w.ownsRow base e size v n xs) (hg : Grow w w') : w'.ownsRow base e size v n xs := by
  refine ⟨h.1, ?_⟩
  rcases h.2 with h | ⟨g, cap, cur, h, h2, hb, h4⟩
  · exact .inl h
  · exact .inr ⟨g, cap, cur, h, h2, hg.heap hb, h4⟩
theorem _root_.Go.World.ownsRow.own_le {w : World} {base : Nat} {e : TypeId} {size n : Nat} {v : Value} {xs : List Value} (h : w.ownsRow base e size v n xs) (k : Nat) (hk : v.ownBlock = some k) : base ≤ k := by
  rcases h.2 with ⟨rfl, -⟩ | ⟨g, cap, cur, rfl, h2, -⟩
  · cases hk
  · cases hk
    exact h2
theorem own_set {w : World} {base : Nat} {e : TypeId} {size n : Nat} {v : Value} {xs : List Value} (h : w.ownsRow base e size v n xs) (b o : Nat) (u : Value) (hb : b < base) : (w.setCell ⟨b, o, none⟩ u).ownsRow base e size v n xs := by
  refine ⟨h.1, ?_⟩
  rcases h.2 with h | ⟨g, cap, cur, h, h2, hg, h4⟩
  · exact .inl h
  · exact .inr ⟨g, cap, cur, h, h2, heap_keep hg ⟨b, o, none⟩ u (by show g ≠ b; omega), h4⟩
/-- A list of the reference's, owned by it. -/
def ROwn (w : World) (v : Value) (L : List It) : Prop := (∃ base, w.ownsRow base 50 4 v L.length (rCells L)) ∧ L.length ≤ 10000
theorem ROwn.items {w : World} {v : Value} {L : List It} (h : ROwn w v L) : RIts w v L := by
  obtain ⟨⟨b, h⟩, hl⟩ := h
  exact RIts.of_own h (by omega)
theorem ROwn.grow {w w' : World} {v : Value} {L : List It} (h : ROwn w v L) (hg : Grow w w') : ROwn w' v L := by
  obtain ⟨⟨b, h⟩, hl⟩ := h
  exact ⟨⟨b, own_grow h hg⟩, hl⟩
theorem ROwn.nil (w : World) : ROwn w (.slice none 0 0) [] := ⟨⟨0, World.ownsRow_nil _ _ _ _⟩, by simp⟩
abbrev rrow (x : It) : Value := .agg #[.int .i64 x.id, .int .i64 x.f, .int .i64 x.t, .string x.v]
def noIt : It := ⟨0, 0, 0, ByteArray.empty⟩
theorem look_at {L : List It} {k : Int} {z : It} (h : look L k = some z) : ∃ (i : Nat) (hi : i < L.length), L[i] = z ∧ z.id = k ∧ ∀ j (hj : j < L.length), j < i → L[j].id ≠ k := by
  unfold look at h
  obtain ⟨h1, h2⟩ := List.find?_eq_some_iff_getElem.1 h
  obtain ⟨i, hi, he, hb⟩ := h2
  refine ⟨i, hi, he, by simpa using h1, fun j hj hlt => ?_⟩
  have := hb j hlt
  simpa using this
set_option maxRecDepth 100000 in
set_option maxHeartbeats 4000000 in
theorem RGetYes_c (last : Int) (v : Value) (l : List It) (k : Int) (z : It) (w : World) (hv : RIts w v l) (hz : look l k = some z) :
    Calls Try.prog 21 #[.agg #[v, .int .i64 last], .int .i64 k] w fun e w' => e = .returned (.tuple #[rrow z, .bool true]) ∧ Grow w w' := by
  obtain ⟨i, hi, hxx, hk, hb⟩ := look_at hz
  obtain ⟨A, c, rfl, hl, -, hca⟩ := hv
  have HX := hid (show ∀ j (hj : j < l.length), ∃ g, A = some ⟨g, 0, none⟩ ∧ RItAt w g (j * 4) l[j] from fun j hj => by
    obtain ⟨g, e, h⟩ := hca (by omega)
    exact ⟨g, e, h j hj⟩)
  have HXX := hid hxx
  have HB := hid hb
  clear hca hxx hb hz
  obtain ⟨id, f, t, s⟩ := z
  dsimp only [rrow] at hk ⊢
  have e0 : (id == k) = true := by simpa using hk
  have HKK := hid hk
  clear hk
  obtain ⟨n, hN⟩ : ∃ n, n = l.length := ⟨_, rfl⟩
  have hin : i < n := by omega
  rw [← hN] at hl ⊢
  have HN := hid hN
  clear hN
  go_enter Try.func21, Try.ntmps21
  go_wp2_with fail
  go_loopw [6] (fun q wr => ∃ j : Nat, j ≤ i ∧ q = .int .i64 (j : Int) ∧ wr = ((w.alloc (.cells #[.slice A n c, .int .i64 last] 26)).alloc (.cells #[.int .i64 0, .int .i64 0, .int .i64 0, .string ByteArray.empty] 50))) (fun q _ => n - (intOf q).toNat)
  case atStart => exact ⟨0, by omega, rfl, rfl⟩
  case round =>
    obtain ⟨j, hj, rfl, rfl⟩ := hrel
    have hj0 : (0 : Int) ≤ (j : Int) := by omega
    have hj1 : (j : Int) < (n : Int) := by omega
    have hj2 : j < l.length := by omega
    obtain ⟨g, rfl, ha⟩ := HX.out j hj2
    by_cases hlt : j < i
    · have hne := HB.out j hj2 hlt
      obtain ⟨x, hx⟩ : ∃ x, l[j] = x := ⟨_, rfl⟩
      rw [hx] at ha hne
      obtain ⟨id2, f2, t2, s2⟩ := x
      unfold RItAt at ha
      dsimp only at ha hne
      obtain ⟨a0, a1, a2, a3⟩ := ha
      have hgl := World.block_lt_of_cell? w _ a0
      simp only at hgl
      have e0 : (id2 == k) = false := by simpa using hne
      go_wp2_with fail
      refine ⟨⟨j + 1, by omega, by push_cast; rfl, ?_⟩, ?_⟩
      · trivial
      · simp [intOf]; omega
    · obtain rfl : j = i := by omega
      rw [HXX.out] at ha
      unfold RItAt at ha
      dsimp only at ha
      obtain ⟨a0, a1, a2, a3⟩ := ha
      have hgl := World.block_lt_of_cell? w _ a0
      simp only at hgl
      go_wp2_with fail
      (try simp only [Exit.inBlock, Exit.then])
      refine bodyPost_ret (v := .tuple #[.agg #[.int .i64 id, .int .i64 f, .int .i64 t, .string s], .bool true]) ?_ rfl ⟨rfl, Grow.trans (Grow.alloc _ _) (Grow.alloc _ _)⟩
      refine results_cellK2 (fn := Try.f21) (p := 4) (u := 5) rfl _ _ (w.heap.size + 1) 50 _ (0, 0) _ rfl (heap_newAt _ _ (by simp)) Try.underlying50 rfl ?_
      kernel_rfl
set_option maxRecDepth 100000 in
set_option maxHeartbeats 4000000 in
theorem RGetNo_c (last : Int) (v : Value) (l : List It) (k : Int) (w : World) (hv : RIts w v l) (hz : look l k = none) :
    Calls Try.prog 21 #[.agg #[v, .int .i64 last], .int .i64 k] w fun e w' => e = .returned (.tuple #[rrow noIt, .bool false]) ∧ Grow w w' := by
  obtain ⟨A, c, rfl, hl, -, hca⟩ := hv
  have HX := hid (show ∀ j (hj : j < l.length), ∃ g, A = some ⟨g, 0, none⟩ ∧ RItAt w g (j * 4) l[j] ∧ (l[j]).id ≠ k from fun j hj => by
    obtain ⟨g, e, h⟩ := hca (by omega)
    unfold look at hz
    have := List.find?_eq_none.1 hz _ (List.getElem_mem hj)
    exact ⟨g, e, h j hj, by simpa using this⟩)
  clear hca hz
  unfold rrow noIt
  dsimp only
  obtain ⟨n, hN⟩ : ∃ n, n = l.length := ⟨_, rfl⟩
  rw [← hN] at hl ⊢
  have HN := hid hN
  clear hN
  go_enter Try.func21, Try.ntmps21
  go_wp2_with fail
  go_loopw [6] (fun q wr => ∃ j : Nat, j ≤ n ∧ q = .int .i64 (j : Int) ∧ wr = ((w.alloc (.cells #[.slice A n c, .int .i64 last] 26)).alloc (.cells #[.int .i64 0, .int .i64 0, .int .i64 0, .string ByteArray.empty] 50))) (fun q _ => n - (intOf q).toNat)
  case atStart => exact ⟨0, by omega, rfl, rfl⟩
  case round =>
    obtain ⟨j, hj, rfl, rfl⟩ := hrel
    have hj0 : (0 : Int) ≤ (j : Int) := by omega
    by_cases hlt : j < n
    · have hj1 : (j : Int) < (n : Int) := by omega
      have hj2 : j < l.length := by have := HN.out; omega
      obtain ⟨g, rfl, ha, hne⟩ := HX.out j hj2
      obtain ⟨x, hx⟩ : ∃ x, l[j] = x := ⟨_, rfl⟩
      rw [hx] at ha hne
      obtain ⟨id2, f2, t2, s2⟩ := x
      unfold RItAt at ha
      dsimp only at ha hne
      obtain ⟨a0, a1, a2, a3⟩ := ha
      have hgl := World.block_lt_of_cell? w _ a0
      simp only at hgl
      have e0 : (id2 == k) = false := by simpa using hne
      go_wp2_with fail
      refine ⟨⟨j + 1, by omega, by push_cast; rfl, ?_⟩, ?_⟩
      · trivial
      · simp [intOf]; omega
    · have hj1 : ¬ (j : Int) < (n : Int) := by omega
      go_wp2_with fail
      (try simp only [Exit.inBlock, Exit.then])
      refine bodyPost_ret (v := .tuple #[.agg #[.int .i64 0, .int .i64 0, .int .i64 0, .string ByteArray.empty], .bool false]) ?_ rfl ⟨rfl, Grow.trans (Grow.alloc _ _) (Grow.alloc _ _)⟩
      refine results_cellK2 (fn := Try.f21) (p := 4) (u := 5) rfl _ _ (w.heap.size + 1) 50 _ (0, 0) _ rfl (heap_newAt _ _ (by simp)) Try.underlying50 rfl ?_
      kernel_rfl
/-- The list without a number. -/
def wout (k : Int) (l : List It) : List It := l.filter (fun x => decide (x.id ≠ k))
theorem wout_snoc (k : Int) (l : List It) (j : Nat) (hj : j < l.length) : wout k (l.take (j + 1)) = if (l[j]).id = k then wout k (l.take j) else wout k (l.take j) ++ [l[j]] := by
  unfold wout
  rw [List.take_succ_eq_append_getElem hj, List.filter_append]
  by_cases h : (l[j]).id = k
  · simp [h]
  · simp [h]
theorem wout_len (k : Int) (l : List It) (j : Nat) : (wout k (l.take j)).length ≤ j := by
  unfold wout
  exact Nat.le_trans (List.length_filter_le _ _) (by rw [List.length_take]; omega)
theorem wout_none {k : Int} {l : List It} (h : (wout k l).length = l.length) : look l k = none := by
  unfold wout at h
  rw [List.length_filter_eq_length_iff] at h
  unfold look
  rw [List.find?_eq_none]
  intro x hx
  have := h x hx
  simpa using this
theorem wout_some {k : Int} {l : List It} (h : (wout k l).length < l.length) : (look l k).isSome = true := by
  cases e : look l k with
  | some z => rfl
  | none =>
    exfalso
    have : wout k l = l := by
      unfold wout
      rw [List.filter_eq_self]
      intro x hx
      unfold look at e
      have := List.find?_eq_none.1 e x hx
      simpa using this
    rw [this] at h
    omega
end Go.Proofs.Ythmbnffddpnehaa
