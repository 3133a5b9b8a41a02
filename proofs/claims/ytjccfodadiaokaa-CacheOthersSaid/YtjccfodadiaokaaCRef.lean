/- What the reference's calls compute: New, Find, Drop, ahead. -/
import Derived.Test.YtjccfodadiaokaaCSame
import Derived.Test.YtjccfodadiaokaaCAll
import Derived.Laws.AppendOwnNone
namespace Go.Proofs.Ytjccfodadiaokaa
open Go.RowKit
set_option linter.unusedVariables false
set_option linter.unusedSimpArgs false
theorem results_cellK {P : Program} {fn : Func} {p : Tmp} {ty : TypeId} (h : fn.results = #[.cell p ty]) (tmps : Array Value) (w : World) (g : Nat) (t : TypeId) (cs : Array Value) (fr : Nat × Nat) (d : TypeDesc)
    (hp : tmps.getD p undef = .pointer (some ⟨g, 0, none⟩)) (hg : w.heap[g]? = some (.cells cs t fr))
    (hu : P.underlying ty = some d) (hd : (match d with | .struct _ | .array _ _ => true | _ => false) = true) (hi : (P.info? ty).map (·.size) = some cs.size) :
    (results fn tmps).run P w = .ok (.agg cs) w := by
  have hp' : tmps[p]?.getD undef = .pointer (some ⟨g, 0, none⟩) := by simpa using hp
  simp [results, h, hp', asAddr, Result.andThen, run_loadVar_row w g t ty cs fr d hg hu hd hi]
theorem results_cellK2 {P : Program} {fn : Func} {p u : Tmp} {ty : TypeId} (h : fn.results = #[.cell p ty, .tmp u]) (tmps : Array Value) (w : World) (g : Nat) (t : TypeId) (cs : Array Value) (fr : Nat × Nat) (d : TypeDesc)
    (hp : tmps.getD p undef = .pointer (some ⟨g, 0, none⟩)) (hg : w.heap[g]? = some (.cells cs t fr))
    (hu : P.underlying ty = some d) (hd : (match d with | .struct _ | .array _ _ => true | _ => false) = true) (hi : (P.info? ty).map (·.size) = some cs.size) :
    (results fn tmps).run P w = .ok (.tuple #[.agg cs, tmps.getD u undef]) w := by
  rw [results_cell_tmp h, hp]
  simp [asAddr, Result.andThen, run_loadVar_row w g t ty cs fr d hg hu hd hi]
/-- A kept thing, in the reference's list. -/
abbrev rrow (x : CItem) : Value := .agg #[.int .i64 x.key, .string x.val, .int .i64 x.pins]
set_option maxRecDepth 100000 in
set_option maxHeartbeats 4000000 in
theorem RFindIn_c (most : Int) (v : Value) (l : List CItem) (k : Int) (i : Nat) (w : World) (hv : RItems w v l) (hi : i < l.length) (hk : (l[i]).key = k) (hb : ∀ j (h : j < l.length), j < i → (l[j]).key ≠ k) :
    Calls Try.prog 38 #[.agg #[.int .i64 most, v], .int .i64 k] w fun e w' => e = .returned (.tuple #[rrow l[i], .bool true]) ∧ Grow w w' := by
  obtain ⟨A, c, rfl, hl, -, hca⟩ := hv
  have HX := hid (show ∀ j (hj : j < l.length), ∃ g, A = some ⟨g, 0, none⟩ ∧ ItemAt w g (j * 3) l[j] from fun j hj => by
    obtain ⟨g, e, h⟩ := hca (by omega)
    exact ⟨g, e, h j hj⟩)
  obtain ⟨xx, hxx⟩ : ∃ x, l[i] = x := ⟨_, rfl⟩
  rw [hxx] at hk ⊢
  have HXX := hid hxx
  have HB := hid hb
  clear hca hxx hb
  obtain ⟨key, val, pins⟩ := xx
  dsimp only [rrow] at hk ⊢
  have e0 : (key == k) = true := by simpa using hk
  have HKK := hid hk
  clear hk
  obtain ⟨n, hN⟩ : ∃ n, n = l.length := ⟨_, rfl⟩
  have hin : i < n := by omega
  rw [← hN] at hl ⊢
  have HN := hid hN
  clear hN
  have HG := hid (Grow.trans (Grow.alloc w (.cells #[.int .i64 most, .slice A n c] 57)) (Grow.alloc _ (.cells #[.int .i64 0, .string ByteArray.empty, .int .i64 0] 53)))
  have HR := hid (heap_newAt (g := w.heap.size + 1) (w.alloc (.cells #[.int .i64 most, .slice A n c] 57)) (.cells #[.int .i64 0, .string ByteArray.empty, .int .i64 0] 53) (by simp))
  go_enter Try.func38, Try.ntmps38
  go_wp2_with fail
  go_loopw [6] (fun q wr => ∃ j : Nat, j ≤ i ∧ q = .int .i64 (j : Int) ∧ wr = ((w.alloc (.cells #[.int .i64 most, .slice A n c] 57)).alloc (.cells #[.int .i64 0, .string ByteArray.empty, .int .i64 0] 53))) (fun q _ => n - (intOf q).toNat)
  case atStart => exact ⟨0, by omega, rfl, rfl⟩
  case round =>
    obtain ⟨j, hj, rfl, rfl⟩ := hrel
    have hj0 : (0 : Int) ≤ (j : Int) := by omega
    have hj1 : (j : Int) < (n : Int) := by omega
    have hj2 : j < l.length := by omega
    obtain ⟨g, rfl, ha⟩ := HX.out j hj2
    by_cases hlt : j < i
    · have hne := HB.out j hj2 hlt
      obtain ⟨x, hx⟩ : ∃ x, l[j] = x := ⟨_, rfl⟩
      rw [hx] at ha hne
      obtain ⟨key, val, pins⟩ := x
      unfold ItemAt at ha
      dsimp only at ha hne
      obtain ⟨a0, a1, a2⟩ := ha
      have hgl := World.block_lt_of_cell? w _ a0
      simp only at hgl
      have e0 : (key == k) = false := by simpa using hne
      go_wp2_with fail
      refine ⟨⟨j + 1, by omega, by push_cast; rfl, ?_⟩, ?_⟩
      · trivial
      · simp [intOf]; omega
    · obtain rfl : j = i := by omega
      rw [HXX.out] at ha
      unfold ItemAt at ha
      dsimp only at ha
      obtain ⟨a0, a1, a2⟩ := ha
      have hgl := World.block_lt_of_cell? w _ a0
      simp only at hgl
      go_wp2_with fail
      (try simp only [Exit.inBlock, Exit.then])
      refine bodyPost_ret (v := .tuple #[.agg #[.int .i64 key, .string val, .int .i64 pins], .bool true]) ?_ rfl ⟨rfl, Grow.trans (Grow.alloc _ _) (Grow.alloc _ _)⟩
      refine results_cellK2 (fn := Try.f38) (p := 4) (u := 5) rfl _ _ (w.heap.size + 1) 53 _ (0, 0) _ rfl (heap_newAt _ _ (by simp)) Try.underlying53 rfl ?_
      kernel_rfl
set_option maxRecDepth 100000 in
set_option maxHeartbeats 4000000 in
theorem RFindNo_c (most : Int) (v : Value) (l : List CItem) (k : Int) (w : World) (hv : RItems w v l) (hb : ∀ x ∈ l, x.key ≠ k) :
    Calls Try.prog 38 #[.agg #[.int .i64 most, v], .int .i64 k] w fun e w' => e = .returned (.tuple #[rrow noItem, .bool false]) ∧ Grow w w' := by
  obtain ⟨A, c, rfl, hl, -, hca⟩ := hv
  have HX := hid (show ∀ j (hj : j < l.length), ∃ g, A = some ⟨g, 0, none⟩ ∧ ItemAt w g (j * 3) l[j] ∧ (l[j]).key ≠ k from fun j hj => by
    obtain ⟨g, e, h⟩ := hca (by omega)
    exact ⟨g, e, h j hj, hb _ (List.getElem_mem hj)⟩)
  clear hca hb
  unfold rrow noItem
  dsimp only
  obtain ⟨n, hN⟩ : ∃ n, n = l.length := ⟨_, rfl⟩
  rw [← hN] at hl ⊢
  have HN := hid hN
  clear hN
  go_enter Try.func38, Try.ntmps38
  go_wp2_with fail
  go_loopw [6] (fun q wr => ∃ j : Nat, j ≤ n ∧ q = .int .i64 (j : Int) ∧ wr = ((w.alloc (.cells #[.int .i64 most, .slice A n c] 57)).alloc (.cells #[.int .i64 0, .string ByteArray.empty, .int .i64 0] 53))) (fun q _ => n - (intOf q).toNat)
  case atStart => exact ⟨0, by omega, rfl, rfl⟩
  case round =>
    obtain ⟨j, hj, rfl, rfl⟩ := hrel
    have hj0 : (0 : Int) ≤ (j : Int) := by omega
    by_cases hlt : j < n
    · have hj1 : (j : Int) < (n : Int) := by omega
      have hj2 : j < l.length := by have := HN.out; omega
      obtain ⟨g, rfl, ha, hne⟩ := HX.out j hj2
      obtain ⟨x, hx⟩ : ∃ x, l[j] = x := ⟨_, rfl⟩
      rw [hx] at ha hne
      obtain ⟨key, val, pins⟩ := x
      unfold ItemAt at ha
      dsimp only at ha hne
      obtain ⟨a0, a1, a2⟩ := ha
      have hgl := World.block_lt_of_cell? w _ a0
      simp only at hgl
      have e0 : (key == k) = false := by simpa using hne
      go_wp2_with fail
      refine ⟨⟨j + 1, by omega, by push_cast; rfl, ?_⟩, ?_⟩
      · trivial
      · simp [intOf]; omega
    · have hj1 : ¬ (j : Int) < (n : Int) := by omega
      go_wp2_with fail
      (try simp only [Exit.inBlock, Exit.then])
      refine bodyPost_ret (v := .tuple #[.agg #[.int .i64 0, .string ByteArray.empty, .int .i64 0], .bool false]) ?_ rfl ⟨rfl, Grow.trans (Grow.alloc _ _) (Grow.alloc _ _)⟩
      refine results_cellK2 (fn := Try.f38) (p := 4) (u := 5) rfl _ _ (w.heap.size + 1) 53 _ (0, 0) _ rfl (heap_newAt _ _ (by simp)) Try.underlying53 rfl ?_
      kernel_rfl
/-- The list without a key. -/
def without (k : Int) (l : List CItem) : List CItem := l.filter fun x => x.key != k
theorem without_snoc (k : Int) (l : List CItem) (j : Nat) (hj : j < l.length) : without k (l.take (j + 1)) = if (l[j]).key = k then without k (l.take j) else without k (l.take j) ++ [l[j]] := by
  unfold without
  rw [List.take_succ_eq_append_getElem hj, List.filter_append]
  by_cases h : (l[j]).key = k
  · simp [h]
  · simp [h]
theorem without_len (k : Int) (l : List CItem) (j : Nat) : (without k (l.take j)).length ≤ j := by
  unfold without
  exact Nat.le_trans (List.length_filter_le _ _) (by rw [List.length_take]; omega)
theorem _root_.Go.World.ownsRow.own_le {w : World} {base : Nat} {e : TypeId} {size n : Nat} {v : Value} {xs : List Value} (h : w.ownsRow base e size v n xs) (k : Nat) (hk : v.ownBlock = some k) : base ≤ k := by
  rcases h.2 with ⟨rfl, -⟩ | ⟨g, cap, cur, rfl, h2, -⟩
  · cases hk
  · cases hk
    exact h2
theorem own_set {w : World} {base : Nat} {e : TypeId} {size n : Nat} {v : Value} {xs : List Value} (h : w.ownsRow base e size v n xs) (b o : Nat) (u : Value) (hb : b < base) : (w.setCell ⟨b, o, none⟩ u).ownsRow base e size v n xs := by
  refine ⟨h.1, ?_⟩
  rcases h.2 with h | ⟨g, cap, cur, h, h2, hg, h4⟩
  · exact .inl h
  · exact .inr ⟨g, cap, cur, h, h2, heap_keep hg ⟨b, o, none⟩ u (by show g ≠ b; omega), h4⟩
theorem own_grow {w w' : World} {base : Nat} {e : TypeId} {size n : Nat} {v : Value} {xs : List Value} (h : w.ownsRow base e size v n xs) (hg : Grow w w') : w'.ownsRow base e size v n xs := by
  refine ⟨h.1, ?_⟩
  rcases h.2 with h | ⟨g, cap, cur, h, h2, hb, h4⟩
  · exact .inl h
  · exact .inr ⟨g, cap, cur, h, h2, hg.heap hb, h4⟩
theorem own_one (w : World) (cur : Array Value) (e : TypeId) (size : Nat) (hs : cur.size = size) : (w.alloc (.cells cur e)).ownsRow w.heap.size e size (.slice (some ⟨w.heap.size, 0, none⟩) 1 1) 1 cur.toList :=
  ⟨by simp [hs], .inr ⟨w.heap.size, 1, cur, rfl, Nat.le_refl _, heap_alloc_new w _, Nat.le_refl _, by unfold maxLen; omega, by omega, by rw [List.take_of_length_le]; simp [hs]⟩⟩
/-- A list of the reference's, owned by it. -/
def ROwn (w : World) (v : Value) (L : List CItem) : Prop := (∃ base, w.ownsRow base 53 3 v L.length (itemCells L)) ∧ L.length ≤ 10000
theorem ROwn.items {w : World} {v : Value} {L : List CItem} (h : ROwn w v L) : RItems w v L := by
  obtain ⟨⟨b, h⟩, hl⟩ := h
  exact RItems.of_own h (by omega)
theorem ROwn.grow {w w' : World} {v : Value} {L : List CItem} (h : ROwn w v L) (hg : Grow w w') : ROwn w' v L := by
  obtain ⟨⟨b, h⟩, hl⟩ := h
  exact ⟨⟨b, own_grow h hg⟩, hl⟩
theorem ROwn.nil (w : World) : ROwn w (.slice none 0 0) [] := ⟨⟨0, World.ownsRow_nil _ _ _ _⟩, by simp⟩
set_option maxRecDepth 100000 in
set_option maxHeartbeats 4000000 in
theorem RDrop_c (most : Int) (v : Value) (l : List CItem) (k : Int) (w : World) (hv : ROwn w v l) :
    Calls Try.prog 39 #[.agg #[.int .i64 most, v], .int .i64 k] w fun e w' => ∃ v', e = .returned (.agg #[.int .i64 most, v']) ∧ ROwn w' v' (without k l) ∧ Grow w w' := by
  have hl4 := hv.2
  obtain ⟨A, c, rfl, hl, -, hca⟩ := hv.items
  clear hv
  have HX := hid (show ∀ j (hj : j < l.length), ∃ g, A = some ⟨g, 0, none⟩ ∧ ItemAt w g (j * 3) l[j] from fun j hj => by
    obtain ⟨g, e, h⟩ := hca (by omega)
    exact ⟨g, e, h j hj⟩)
  clear hca hl
  have hl := hl4
  clear hl4
  have HLL := hid (show without k l = without k (l.take l.length) from by rw [List.take_length])
  have HST := hid (fun j hj => without_snoc k l j hj)
  have HLE := hid (fun j => without_len k l j)
  rw [HLL.out]
  obtain ⟨n, hN⟩ : ∃ n, n = l.length := ⟨_, rfl⟩
  rw [← hN] at hl ⊢
  have HN := hid hN
  clear hN HLL
  have HG := hid (Grow.trans (Grow.alloc w (.cells #[.int .i64 most, .slice A n c] 57)) (Grow.alloc _ (.cells #[.int .i64 0, .slice none 0 0] 57)))
  have HR0 := hid (heap_alloc_keep (heap_new w (.cells #[.int .i64 most, .slice A n c] 57)) (.cells #[.int .i64 0, .slice none 0 0] 57))
  have HR1 := hid (heap_newAt (g := w.heap.size + 1) (w.alloc (.cells #[.int .i64 most, .slice A n c] 57)) (.cells #[.int .i64 0, .slice none 0 0] 57) (by simp))
  have hsz : ((w.alloc (.cells #[.int .i64 most, .slice A n c] 57)).alloc (.cells #[.int .i64 0, .slice none 0 0] 57)).heap.size = w.heap.size + 1 + 1 := by simp
  have HSZ := hid hsz
  clear hsz
  go_enter Try.func39, Try.ntmps39
  go_wp2_with fail
  generalize ((w.alloc (.cells #[.int .i64 most, .slice A n c] 57)).alloc (.cells #[.int .i64 0, .slice none 0 0] 57)) = w2 at *
  have hs2 := HSZ.out
  go_loopw [5, 6] (fun lv q wr => ∃ (j : Nat) (B : Option Addr) (m cc : Nat), j ≤ n ∧ q = .int .i64 (j : Int) ∧ lv = .slice B m cc ∧ Hid (m = (without k (l.take j)).length) ∧ Grow w2 wr ∧ Hid (wr.ownsRow w2.heap.size 53 3 (.slice B m cc) m (itemCells (without k (l.take j))))) (fun _ q _ => n - (intOf q).toNat)
  case atStart => exact ⟨0, none, 0, 0, by omega, rfl, rfl, hid (by simp [without]), Grow.refl _, hid (World.ownsRow_nil _ _ _ _)⟩
  case round =>
    obtain ⟨j, B, m, cc, hj, rfl, rfl, HM, hg2, HO⟩ := hrel
    have hj0 : (0 : Int) ≤ (j : Int) := by omega
    have hmj : m ≤ j := by rw [HM.out]; exact HLE.out j
    have r0 := hg2.heap HR0.out
    have r1 := hg2.heap HR1.out
    have p0 : wr.cell? ⟨w.heap.size, 0, none⟩ = some (.int .i64 most) := by rw [heap_cell r0]; rfl
    have p1 : wr.cell? ⟨w.heap.size, 1, none⟩ = some (.slice A n c) := by rw [heap_cell r0]; rfl
    have q0 : wr.cell? ⟨w.heap.size + 1, 0, none⟩ = some (.int .i64 0) := by rw [heap_cell r1]; rfl
    have q1 : wr.cell? ⟨w.heap.size + 1, 1, none⟩ = some (.slice none 0 0) := by rw [heap_cell r1]; rfl
    have f1 : wr.frozen? ⟨w.heap.size, 1, none⟩ = false := heap_frozen r0 1 (by omega)
    have k0 : wr.frozen? ⟨w.heap.size + 1, 0, none⟩ = false := heap_frozen r1 0 (by omega)
    have k1 : wr.frozen? ⟨w.heap.size + 1, 1, none⟩ = false := heap_frozen r1 1 (by omega)
    have hgs := hg2.size
    have HR1' := hid r1
    have hlw0 := heap_lt r0
    have hlw1 := heap_lt r1
    clear r0 r1
    by_cases hlt : j < n
    · have hj1 : (j : Int) < (n : Int) := by omega
      have hj2 : j < l.length := by have := HN.out; omega
      have hst := HST.out j hj2
      obtain ⟨g, rfl, ha⟩ := HX.out j hj2
      obtain ⟨x, hx⟩ : ∃ x, l[j] = x := ⟨_, rfl⟩
      rw [hx] at ha hst
      clear hx
      obtain ⟨key, val, pins⟩ := x
      unfold ItemAt at ha
      dsimp only at ha hst
      obtain ⟨a0, a1, a2⟩ := ha
      replace a0 := hg2.cell (HG.out.cell a0)
      replace a1 := hg2.cell (HG.out.cell a1)
      replace a2 := hg2.cell (HG.out.cell a2)
      by_cases hk : key = k
      · rw [if_pos hk] at hst
        have HST1 := hid hst
        have e0 : (key != k) = false := by simp [hk]
        clear hst hk
        go_wp2_with fail
        refine ⟨⟨j + 1, B, m, cc, by omega, by push_cast; rfl, rfl, ?_, hg2, ?_⟩, ?_⟩
        · rw [HST1.out]; exact HM
        · rw [HST1.out]; exact HO
        · simp [intOf]; omega
      · rw [if_neg hk] at hst
        have HST1 := hid hst
        have e0 : (key != k) = true := by simpa using hk
        have hOB := HO.out
        clear hst hk
        go_wp2_with (at_builtin; refine wpList_pushH _ rfl rfl _ _ 50 rfl 53 (.agg #[.int .i64 0, .string ByteArray.empty, .int .i64 0]) 3 32 Try.underlying50 infoRItem rfl (by omega) w2.heap.size _ m _ rfl HO.out [_, _, _] rfl rfl (by simp [Value.oneCell']) (by unfold maxLen; omega) (by omega) hgs ?_)
        intro v' w5 ho5 hg5 hs5
        obtain ⟨A5, c5, rfl⟩ := own_form ho5
        have HST2 := hid (show m + 1 = (without k (l.take (j + 1))).length from by rw [HST1.out, List.length_append, ← HM.out]; rfl)
        have HO5 := hid (show w5.ownsRow w2.heap.size 53 3 (.slice A5 (m + 1) c5) (m + 1) (itemCells (without k (l.take (j + 1)))) from by
          rw [HST1.out, itemCells_append]
          rw [hs2]
          exact ho5)
        have hg6 : Grow w2 w5 := Below.grown hg2 hg5 (by omega) (fun q hq => hOB.own_le q hq)
        clear ho5 hg5 HO hOB
        go_wp2_with fail
        refine ⟨⟨j + 1, A5, m + 1, c5, by omega, by push_cast; rfl, rfl, HST2, hg6, HO5⟩, ?_⟩
        simp [intOf]
        omega
    · obtain rfl : j = n := by omega
      go_wp2_with fail
      (try simp only [Exit.inBlock, Exit.then])
      have ho := own_set (own_set (own_set HO.out w.heap.size 1 (.slice B m cc) (by omega)) (w.heap.size + 1) 0 (.int .i64 most) (by omega)) (w.heap.size + 1) 1 (.slice B m cc) (by omega)
      refine bodyPost_ret (v := .agg #[.int .i64 most, .slice B m cc]) ?_ rfl ⟨_, rfl, ?_, ?_⟩
      · refine results_cellK (fn := Try.f39) (p := 4) rfl _ _ (w.heap.size + 1) 57 _ (0, 0) _ rfl (heap_set (heap_set (heap_keep HR1'.out _ _ (by show w.heap.size + 1 ≠ w.heap.size; omega)) 0 _) 1 _) Try.underlying57 rfl ?_
        kernel_rfl
      · have hm := HM.out
        refine ⟨⟨w2.heap.size, ?_⟩, by omega⟩
        rw [← hm]
        exact ho
      · exact Below.setCell (Below.setCell (Below.setCell (Grow.trans HG.out hg2) (Nat.le_refl _) _) (Nat.le_succ _) _) (Nat.le_succ _) _
set_option maxRecDepth 100000 in
theorem RNew_c (most : Int) (w : World) (h1 : 1 ≤ most) (h2 : most ≤ 1024) : Calls Try.prog 21 #[.int .i64 most] w fun e w' => e = .returned (.tuple #[.agg #[.int .i64 most, .slice none 0 0], .int .i64 0]) ∧ Grow w w' := by
  go_enter Try.func21, Try.ntmps21
  go_wp2_with fail
  (try simp only [Exit.inBlock, Exit.then])
  refine bodyPost_ret (v := .tuple #[.agg #[.int .i64 most, .slice none 0 0], .int .i64 0]) ?_ rfl ⟨rfl, Grow.alloc _ _⟩
  refine results_cellK2 (fn := Try.f21) (p := 2) (u := 3) rfl _ _ w.heap.size 57 _ (0, 0) _ rfl (heap_newAt _ _ rfl) Try.underlying57 rfl ?_
  kernel_rfl
set_option maxRecDepth 100000 in
theorem RNewBad_c (most : Int) (w : World) (h1 : most < 1 ∨ 1024 < most) : Calls Try.prog 21 #[.int .i64 most] w fun e w' => e = .returned (.tuple #[.agg #[.int .i64 0, .slice none 0 0], .int .i64 1]) ∧ Grow w w' := by
  rcases h1 with h1 | h1
  all_goals
    first | (have h2 : ¬ most < 1 := by omega) | skip
    go_enter Try.func21, Try.ntmps21
    go_wp2_with fail
    (try simp only [Exit.inBlock, Exit.then])
    refine bodyPost_ret (v := .tuple #[.agg #[.int .i64 0, .slice none 0 0], .int .i64 1]) ?_ rfl ⟨rfl, Grow.alloc _ _⟩
    refine results_cellK2 (fn := Try.f21) (p := 2) (u := 3) rfl _ _ w.heap.size 57 _ (0, 0) _ rfl (heap_newAt _ _ rfl) Try.underlying57 rfl ?_
    kernel_rfl
/-- What the reference's cache is behind a call. -/
def CPost (most : Int) (L : List CItem) (w : World) (e : Ending) (w' : World) : Prop := ∃ v', e = .returned (.agg #[.int .i64 most, v']) ∧ ROwn w' v' L ∧ Grow w w'
theorem wpList_append_none' {P : Program} {w : World} {ops : Array Oper} {rest : List Oper} {o : Oper} {a : Act} {Q : Exit → Act → World → Prop} (hgd : o.guard = none) (s x : Operand) (t : TypeId)
    (ho : o.op = .call { callee := .builtin .append, args := #[s, x], argTypes := #[t, t] })
    (base : Nat) (e : TypeId) (i : TypeInfo) (size : Nat) (ht : P.underlying t = some (.slice e)) (hi : P.info? e = some i)
    (v : Value) (n : Nat) (xs : List Value) (hs : a.eval s = v) (hown : w.ownsRow base e size v n xs) (hx : a.eval x = .slice none 0 0)
    (h : ∀ w', w' = w → wpList P ops Q rest (a.put o.dst v) w') : wpList P ops Q (o :: rest) a w :=
  wpList_append_own_none hgd s x t ho base e i size ht hi v n xs hs hown hx (h w rfl)
theorem Below.mono' {B : Nat} {a b : World} (h : Below B a b) (hb : B ≤ b.heap.size) (o : Obj) : Below B a (b.alloc o) := h.alloc hb o
attribute [local go_sem ↓ high] setCell_twice in
set_option maxRecDepth 100000 in
set_option maxHeartbeats 4000000 in
theorem Rahead_c (most : Int) (v : Value) (l : List CItem) (x : CItem) (w : World) (hv : ROwn w v l) (hl : l.length ≤ 9999) :
    Calls Try.prog 50 #[.agg #[.int .i64 most, v], rrow x] w (CPost most (x :: without x.key l) w) := by
  obtain ⟨key, val, pins⟩ := x
  unfold rrow
  dsimp only
  have HD := hid (fun (w' : World) (g : Grow w w') => RDrop_c most v l key w' (hv.grow g))
  obtain ⟨A, c, rfl, -, -, -⟩ := hv.items
  have HL := hid (show (without key l).length ≤ 9999 from Nat.le_trans (by have := without_len key l l.length; rwa [List.take_length] at this) hl)
  clear hv
  unfold CPost
  generalize without key l = L1 at *
  generalize l.length = n at *
  have G2 := hid (Grow.trans (Grow.trans (Grow.alloc w (.cells #[.int .i64 most, .slice A n c] 57)) (Grow.alloc _ (.cells #[.int .i64 key, .string val, .int .i64 pins] 53))) (Grow.alloc _ (.cells #[.int .i64 0, .slice none 0 0] 57)))
  have B0 := hid (heap_alloc_keep (heap_alloc_keep (heap_new w (.cells #[.int .i64 most, .slice A n c] 57)) (.cells #[.int .i64 key, .string val, .int .i64 pins] 53)) (.cells #[.int .i64 0, .slice none 0 0] 57))
  have B1 := hid (heap_alloc_keep (heap_newAt (g := w.heap.size + 1) (w.alloc (.cells #[.int .i64 most, .slice A n c] 57)) (.cells #[.int .i64 key, .string val, .int .i64 pins] 53) (by simp)) (.cells #[.int .i64 0, .slice none 0 0] 57))
  have B2 := hid (heap_newAt (g := w.heap.size + 1 + 1) ((w.alloc (.cells #[.int .i64 most, .slice A n c] 57)).alloc (.cells #[.int .i64 key, .string val, .int .i64 pins] 53)) (.cells #[.int .i64 0, .slice none 0 0] 57) (by simp))
  go_enter Try.func50, Try.ntmps50
  go_wp2_with fail
  refine (HD.out _ G2.out).mono ?_
  rintro e w4 ⟨v4, rfl, ho4, g4⟩
  have b0 := g4.heap B0.out
  have b1 := g4.heap B1.out
  have b2 := g4.heap B2.out
  have G4 := hid (Grow.trans G2.out g4)
  have hm4 := ho4.2
  obtain ⟨⟨bb, ho⟩, -⟩ := ho4
  clear g4 B0 B1 B2 G2 HD
  have p0 : w4.cell? ⟨w.heap.size, 0, none⟩ = some (.int .i64 most) := by rw [heap_cell b0]; rfl
  have p1 : w4.cell? ⟨w.heap.size, 1, none⟩ = some (.slice A n c) := by rw [heap_cell b0]; rfl
  have p2 : w4.frozen? ⟨w.heap.size, 0, none⟩ = false := heap_frozen b0 0 (by omega)
  have p3 : w4.frozen? ⟨w.heap.size, 1, none⟩ = false := heap_frozen b0 1 (by omega)
  have q0 : w4.cell? ⟨w.heap.size + 1, 0, none⟩ = some (.int .i64 key) := by rw [heap_cell b1]; rfl
  have q1 : w4.cell? ⟨w.heap.size + 1, 1, none⟩ = some (.string val) := by rw [heap_cell b1]; rfl
  have q2 : w4.cell? ⟨w.heap.size + 1, 2, none⟩ = some (.int .i64 pins) := by rw [heap_cell b1]; rfl
  have hl4 := heap_lt b2
  have hl3 := heap_lt b1
  have hl2 := heap_lt b0
  have HB0 := hid b0
  have HB2 := hid b2
  obtain ⟨i0, hi, hz0, hz1, hz2⟩ := info_parts infoRItem
  have HONE := hid (fun u => show (((w4.setCell ⟨w.heap.size, 0, none⟩ (.int .i64 most)).setCell ⟨w.heap.size, 1, none⟩ u).alloc (.cells #[.int .i64 key, .string val, .int .i64 pins] 53)).ownsRow w4.heap.size 53 3 (.slice (some ⟨w4.heap.size, 0, none⟩) 1 1) 1 [.int .i64 key, .string val, .int .i64 pins] from by
    have := own_one ((w4.setCell ⟨w.heap.size, 0, none⟩ (.int .i64 most)).setCell ⟨w.heap.size, 1, none⟩ u) #[.int .i64 key, .string val, .int .i64 pins] 53 3 rfl
    simpa using this)
  have HEND := hid (show ∀ (u v' : Value) (w' : World), w'.ownsRow w4.heap.size 53 3 v' (1 + L1.length) ([.int .i64 key, .string val, .int .i64 pins] ++ itemCells L1) → World.grownBy (((w4.setCell ⟨w.heap.size, 0, none⟩ (.int .i64 most)).setCell ⟨w.heap.size, 1, none⟩ u).alloc (.cells #[.int .i64 key, .string val, .int .i64 pins] 53)) w' (some w4.heap.size) →
      ∃ A5 c5, v' = .slice A5 (1 + L1.length) c5 ∧ w'.heap[w.heap.size]? = some (.cells #[.int .i64 most, u] 57 (0, 0)) ∧ w'.heap[w.heap.size + 1 + 1]? = some (.cells #[.int .i64 0, .slice none 0 0] 57 (0, 0)) ∧ Grow w w' ∧ w'.ownsRow w4.heap.size 53 3 v' (1 + L1.length) (itemCells (⟨key, val, pins⟩ :: L1)) ∧ w4.heap.size ≤ w'.heap.size from by
    intro u v' w' h1 h2
    obtain ⟨A5, c5, rfl⟩ := own_form h1
    have s2 := h2.size
    simp only [World.size_alloc, World.size_setCell] at s2
    have e1 : (((w4.setCell ⟨w.heap.size, 0, none⟩ (.int .i64 most)).setCell ⟨w.heap.size, 1, none⟩ u).alloc (.cells #[.int .i64 key, .string val, .int .i64 pins] 53)).heap.size = w4.heap.size + 1 := by simp
    have gW : Grow w (((w4.setCell ⟨w.heap.size, 0, none⟩ (.int .i64 most)).setCell ⟨w.heap.size, 1, none⟩ u).alloc (.cells #[.int .i64 key, .string val, .int .i64 pins] 53)) := Below.mono' (Below.setCell (Below.setCell G4.out (Nat.le_refl _) _) (Nat.le_refl _) _) (by simp; omega) _
    refine ⟨A5, c5, rfl, ?_, ?_, Below.grown gW h2 (by rw [e1]; omega) (fun k hk => by cases hk; omega), ?_, by omega⟩
    · exact (h2.block _ (by rw [e1]; omega) (fun e => by have := Option.some.inj e; omega)).trans (heap_alloc_keep (heap_set (heap_set HB0.out 0 _) 1 _) _)
    · exact (h2.block _ (by rw [e1]; omega) (fun e => by have := Option.some.inj e; omega)).trans (heap_alloc_keep (heap_keep (heap_keep HB2.out _ _ (by show w.heap.size + 1 + 1 ≠ w.heap.size; omega)) _ _ (by show w.heap.size + 1 + 1 ≠ w.heap.size; omega)) _)
    · rw [itemCells_cons]
      exact h1)
  rcases ho.2 with ⟨rfl, h0⟩ | ⟨g, cap, cur, rfl, hbg, hg, hnc, hcm, hcs, htk⟩
  · obtain rfl := List.eq_nil_of_length_eq_zero h0
    have r0 : w4.cell? ⟨w.heap.size + 1 + 1, 0, none⟩ = some (.int .i64 0) := by rw [heap_cell b2]; rfl
    have r1 : w4.cell? ⟨w.heap.size + 1 + 1, 1, none⟩ = some (.slice none 0 0) := by rw [heap_cell b2]; rfl
    have r2 : w4.frozen? ⟨w.heap.size + 1 + 1, 0, none⟩ = false := heap_frozen b2 0 (by omega)
    have r3 : w4.frozen? ⟨w.heap.size + 1 + 1, 1, none⟩ = false := heap_frozen b2 1 (by omega)
    clear hi hz0 hz1 hz2 ho b0 b1 b2 HEND HONE HB0
    go_wp2_with fail
    (try simp only [Exit.inBlock, Exit.then])
    refine bodyPost_ret (v := .agg #[.int .i64 most, .slice (some ⟨w4.heap.size, 0, none⟩) 1 1]) ?_ rfl ⟨_, rfl, ⟨⟨w4.heap.size, ?_⟩, ?_⟩, ?_⟩
    · refine results_cellK (fn := Try.f50) (p := 4) rfl _ _ (w.heap.size + 1 + 1) 57 _ (0, 0) _ rfl (heap_alloc_keep (heap_set (heap_set (heap_keep (heap_keep HB2.out _ _ (by show w.heap.size + 1 + 1 ≠ w.heap.size; omega)) _ _ (by show w.heap.size + 1 + 1 ≠ w.heap.size; omega)) 0 _) 1 _) _) Try.underlying57 rfl ?_
      kernel_rfl
    · have := own_one ((((w4.setCell ⟨w.heap.size, 0, none⟩ (.int .i64 most)).setCell ⟨w.heap.size, 1, none⟩ (.slice (some ⟨w4.heap.size, 0, none⟩) 1 1)).setCell ⟨w.heap.size + 1 + 1, 0, none⟩ (.int .i64 most)).setCell ⟨w.heap.size + 1 + 1, 1, none⟩ (.slice (some ⟨w4.heap.size, 0, none⟩) 1 1)) #[.int .i64 key, .string val, .int .i64 pins] 53 3 rfl
      simpa [itemCells, CItem.row] using this
    · simp
    · exact Below.mono' (Below.setCell (Below.setCell (Below.setCell (Below.setCell G4.out (Nat.le_refl _) _) (Nat.le_refl _) _) (by show w.heap.size ≤ w.heap.size + 1 + 1; omega) _) (by show w.heap.size ≤ w.heap.size + 1 + 1; omega) _) (by simp; omega) _
  · have hne : g ≠ w.heap.size := by
      rintro rfl
      rw [hg] at b0
      injection b0 with b0
      injection b0 with _ e _
      exact absurd e (by decide)
    have HC := hid (show ∀ u j v, (itemCells L1)[j]? = some v → (((w4.setCell ⟨w.heap.size, 0, none⟩ (.int .i64 most)).setCell ⟨w.heap.size, 1, none⟩ u).alloc (.cells #[.int .i64 key, .string val, .int .i64 pins] 53)).cell? ⟨g, j, none⟩ = some v from fun u j v hj => by
      have hjl : j < L1.length * 3 := by
        have := (List.getElem?_eq_some_iff.1 hj).1
        rwa [itemCells_length] at this
      refine Lib.cell?_alloc_some _ ?_
      have e1 := heap_keep (heap_keep hg ⟨w.heap.size, 0, none⟩ (.int .i64 most) hne) ⟨w.heap.size, 1, none⟩ u hne
      rw [heap_cell e1, ← heap_cell hg]
      exact (ho.cellAt j hjl).trans hj)
    have hm9 := HL.out
    clear ho b0 b1 b2 hg hcs htk
    go_wp2_with (at_builtin; refine wpList_append_own _ rfl _ _ 50 rfl w4.heap.size 53 i0 _ 3 32 Try.underlying50 hi hz0 hz1 hz2 rfl (by decide) _ 1 _ rfl (HONE.out _) ⟨g, 0, none⟩ L1.length cap (itemCells L1) rfl (itemCells_length L1) ?qc2 (itemCells_one L1) ?qc4 ?qc5 ?qc6 ?_)
    case qc2 =>
      intro j u hj
      rw [Addr.add_lit, Nat.zero_add]
      exact HC.out _ j u hj
    case qc4 => unfold maxLen; omega
    case qc5 => omega
    case qc6 => simp
    intro v' w5 hown hgrow hnil
    obtain ⟨A5, c5, rfl, k0, k2, g5, R5, s5⟩ := HEND.out _ _ w5 hown hgrow
    clear hown hgrow hnil p0 p1 p2 p3 q0 q1 q2
    have p0 : w5.cell? ⟨w.heap.size, 0, none⟩ = some (.int .i64 most) := by rw [heap_cell k0]; rfl
    have p1 : w5.cell? ⟨w.heap.size, 1, none⟩ = some (.slice (some ⟨g, 0, none⟩) L1.length cap) := by rw [heap_cell k0]; rfl
    have p2 : w5.frozen? ⟨w.heap.size, 0, none⟩ = false := heap_frozen k0 0 (by omega)
    have p3 : w5.frozen? ⟨w.heap.size, 1, none⟩ = false := heap_frozen k0 1 (by omega)
    have r0 : w5.cell? ⟨w.heap.size + 1 + 1, 0, none⟩ = some (.int .i64 0) := by rw [heap_cell k2]; rfl
    have r1 : w5.cell? ⟨w.heap.size + 1 + 1, 1, none⟩ = some (.slice none 0 0) := by rw [heap_cell k2]; rfl
    have r2 : w5.frozen? ⟨w.heap.size + 1 + 1, 0, none⟩ = false := heap_frozen k2 0 (by omega)
    have r3 : w5.frozen? ⟨w.heap.size + 1 + 1, 1, none⟩ = false := heap_frozen k2 1 (by omega)
    have hl5 := heap_lt k2
    have hl6 := heap_lt k0
    have R6 := hid R5
    have K2 := hid k2
    have G5 := hid g5
    clear R5 k2 g5 k0 HEND HONE HB0 HB2
    obtain ⟨m, hm⟩ : ∃ m, m = L1.length := ⟨_, rfl⟩
    rw [← hm] at R6 p1 HL hm9
    rw [← hm]
    have HM := hid hm
    clear hm hm4
    go_wp2_with fail
    (try simp only [Exit.inBlock, Exit.then])
    have ho := own_set (own_set (own_set R6.out w.heap.size 1 (.slice A5 (1 + m) c5) (by omega)) (w.heap.size + 1 + 1) 0 (.int .i64 most) (by omega)) (w.heap.size + 1 + 1) 1 (.slice A5 (1 + m) c5) (by omega)
    refine bodyPost_ret (v := .agg #[.int .i64 most, .slice A5 (1 + m) c5]) ?_ rfl ⟨_, rfl, ⟨⟨w4.heap.size, ?_⟩, ?_⟩, ?_⟩
    · refine results_cellK (fn := Try.f50) (p := 4) rfl _ _ (w.heap.size + 1 + 1) 57 _ (0, 0) _ rfl (heap_set (heap_set (heap_keep K2.out _ _ (by show w.heap.size + 1 + 1 ≠ w.heap.size; omega)) 0 _) 1 _) Try.underlying57 rfl ?_
      kernel_rfl
    · rw [List.length_cons, ← HM.out, Nat.add_comm m 1]
      exact ho
    · have := HM.out
      rw [List.length_cons]
      omega
    · exact Below.setCell (Below.setCell (Below.setCell G5.out (Nat.le_refl _) _) (by show w.heap.size ≤ w.heap.size + 1 + 1; omega) _) (by show w.heap.size ≤ w.heap.size + 1 + 1; omega) _
end Go.Proofs.Ytjccfodadiaokaa
