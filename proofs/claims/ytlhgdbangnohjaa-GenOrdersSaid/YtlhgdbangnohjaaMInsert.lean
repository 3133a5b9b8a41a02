/- What slices.Insert leaves of numbers. -/
import Derived.Test.YtlhgdbangnohjaaMFind
import Derived.Shelf.Spec.SlicesInsertGrow
import Derived.Deep.DeepAppendWide
import Derived.Deep.RegionLaw
namespace Go.Proofs.Ytlhgdbangnohjaa
open Go.RowKit
set_option linter.unusedVariables false
set_option linter.unusedSimpArgs false
theorem Below.setCellsM {B g : Nat} {a : World} (hg : B ≤ g) : ∀ (vs : List Value) (o : Nat) (w : World), Below B a w → Below B a (w.setCells g o vs)
  | [], _, _, h => h
  | v :: r, o, w, h => by
    rw [World.setCells]
    exact Below.setCellsM hg r (o + 1) _ (h.setCell (by exact hg) v)
theorem sizeInt (w : World) : (Go.sizeOf 3).run Try.prog w = .ok 1 w := by
  obtain ⟨i0, hi, -, -, -⟩ := info_parts infoIntM
  rw [run_sizeOf w hi]
  have : Try.prog.cellsOf 3 = 1 := by kernel_rfl
  rw [this]
theorem infoSizeInt : (Try.prog.info? 3).map (·.size) = some 1 := by
  obtain ⟨i0, hi, -, h1, -⟩ := info_parts infoIntM
  rw [hi]; simp [h1]
theorem ins_getD (xs : List Int) (x : Int) (i k : Nat) (hi : i ≤ xs.length) : (xs.take i ++ x :: xs.drop i).getD k 0 = if k < i then xs.getD k 0 else if k = i then x else xs.getD (k - 1) 0 := by
  have hl : (xs.take i).length = i := by rw [List.length_take]; omega
  rw [List.getD_eq_getElem?_getD, List.getElem?_append, hl]
  by_cases h : k < i
  · rw [if_pos h, if_pos h, List.getElem?_take, if_pos h, List.getD_eq_getElem?_getD]
  · rw [if_neg h, if_neg h]
    by_cases h2 : k = i
    · subst h2; simp
    · rw [if_neg h2, List.getElem?_cons, if_neg (by omega), List.getElem?_drop, List.getD_eq_getElem?_getD, show i + (k - i - 1) = k - 1 by omega]
theorem ins_len (xs : List Int) (x : Int) (i : Nat) (hi : i ≤ xs.length) : (xs.take i ++ x :: xs.drop i).length = xs.length + 1 := by
  simp; omega
theorem i64s_drop_at {xs : List Int} {i j : Nat} (h : i + j < xs.length) : (i64s (xs.drop i))[j]? = some (.int .i64 (xs.getD (i + j) 0)) := by
  unfold i64s
  rw [List.getElem?_map, List.getElem?_drop, List.getElem?_eq_getElem h]
  simp [List.getD, List.getElem?_eq_getElem h]
/-- Cells of a row into which a number was put. -/
theorem Ints.put {w' : World} {g i cap : Nat} {xs : List Int} {x : Int} (hi : i ≤ xs.length) (hn : xs.length < 20000000000000) (hcap : xs.length + 1 ≤ cap)
    (h0 : ∀ k, k < i → w'.cell? ⟨g, k, none⟩ = some (.int .i64 (xs.getD k 0))) (h1 : w'.cell? ⟨g, i, none⟩ = some (.int .i64 x))
    (h2 : ∀ k, i ≤ k → k < xs.length → w'.cell? ⟨g, k + 1, none⟩ = some (.int .i64 (xs.getD k 0))) : Ints w' (.slice (some ⟨g, 0, none⟩) (xs.length + 1) cap) (xs.take i ++ x :: xs.drop i) := by
  refine ⟨some ⟨g, 0, none⟩, cap, by rw [ins_len xs x i hi], by rw [ins_len xs x i hi]; omega, fun _ => ⟨g, 0, rfl, fun k hk => ?_⟩, by rw [ins_len xs x i hi]; exact hcap⟩
  rw [ins_len xs x i hi] at hk
  rw [ins_getD xs x i k hi, Nat.zero_add]
  by_cases hlt : k < i
  · rw [if_pos hlt]; exact h0 k hlt
  · rw [if_neg hlt]
    by_cases he : k = i
    · rw [if_pos he, he]; exact h1
    · rw [if_neg he]
      have := h2 (k - 1) (by omega) (by omega)
      rwa [show k - 1 + 1 = k by omega] at this
set_option maxRecDepth 100000 in
set_option maxHeartbeats 4000000 in
/-- At the end. -/
theorem InsertEnd_c (xs : List Int) (x : Int) (v : Value) (w : World) (base vb : Nat) (hb : base ≤ w.heap.size) (hn : xs.length < 20000000000000) (hv : w.ownsRow base 3 1 v xs.length (i64s xs))
    (hx : w.heap[vb]? = some (.cells #[.int .i64 x] 3 (0, 0))) :
    Calls Try.prog 60 #[v, .int .i64 (xs.length : Int), .slice (some ⟨vb, 0, none⟩) 1 1] w fun e w' => ∃ v', e = .returned v' ∧ IntsF base w' v' (xs ++ [x]) ∧ Below base w w' := by
  have HV := hid hv
  have HI := hid (Ints.of_own hv (by omega))
  obtain ⟨i0, hi, hz0, hz1, hz2⟩ := info_parts infoIntM
  have HX := hid (show ∀ j u, [Value.int .i64 x][j]? = some u → w.cell? ((⟨vb, 0, none⟩ : Addr).add j) = some u from by
    intro j u hu
    rw [Addr.add_lit, Nat.zero_add, heap_cell hx]
    simpa using hu)
  clear hx
  rcases hv.2 with ⟨h, hz⟩ | ⟨g, cap, cur, h, hbg, hg, hnc, hcm, hcs, htake⟩
  · subst h
    obtain rfl := List.eq_nil_of_length_eq_zero hz
    clear hz hv hn
    go_enter Try.func60, Try.ntmps60
    go_wp2_with (at_builtin; refine wpList_append_own_wide _ rfl _ _ 23 rfl base 3 i0 (.int .i64 0) 1 8 Try.underlying23 hi hz0 hz1 hz2 rfl (by decide) _ 0 (i64s []) rfl HV.out ⟨vb, 0, none⟩ 1 1 [.int .i64 x] rfl rfl HX.out (by simp [Value.oneCell']) (by unfold maxLen; omega) (by omega) hb ?_; intro v' w' ho hgr _; rw [push_intM] at ho)
    go_ret
    exact ⟨_, rfl, ⟨Ints.of_own ho (by omega), Lies.own ho⟩, Row.below (Below.refl _ _) hgr hb (fun k hk => (HV.out.lt k hk).1)⟩
  · subst h
    clear hv hg hcs htake
    have HN := hid hn
    clear hn
    generalize hN : xs.length = n at *
    unfold maxLen at hcm
    go_enter Try.func60, Try.ntmps60
    go_wp2_with (at_builtin; refine wpList_append_own_wide _ rfl _ _ 23 rfl base 3 i0 (.int .i64 0) 1 8 Try.underlying23 hi hz0 hz1 hz2 rfl (by decide) _ n (i64s xs) rfl HV.out ⟨vb, 0, none⟩ 1 1 [.int .i64 x] rfl rfl HX.out (by simp [Value.oneCell']) (by unfold maxLen; have := HN.out; omega) (by have := HN.out; omega) hb ?_; intro v' w' ho hgr _; rw [push_intM] at ho)
    all_goals go_ret
    all_goals exact ⟨_, rfl, ⟨Ints.of_own ho (by have := HN.out; omega), Lies.own ho⟩, Row.below (Below.refl _ _) hgr hb (fun k hk => (HV.out.lt k hk).1)⟩
set_option maxRecDepth 100000 in
set_option maxHeartbeats 4000000 in
/-- In place. -/
theorem InsertIn_c (xs : List Int) (x : Int) (i : Nat) (g vb cap : Nat) (cur : Array Value) (w : World) (hi : i < xs.length) (hroom : xs.length + 1 ≤ cap) (hcm : cap ≤ maxLen)
    (hg : w.heap[g]? = some (.cells cur 3 (0, 0))) (hcs : cur.size = cap) (htake : cur.toList.take xs.length = i64s xs)
    (hx : w.heap[vb]? = some (.cells #[.int .i64 x] 3 (0, 0))) (hne : vb ≠ g) :
    Calls Try.prog 60 #[.slice (some ⟨g, 0, none⟩) xs.length cap, .int .i64 (i : Int), .slice (some ⟨vb, 0, none⟩) 1 1] w fun e w' =>
      e = .returned (.slice (some ⟨g, 0, none⟩) (xs.length + 1) cap) ∧ w' = (w.drew.setCells g (i + 1) (i64s (xs.drop i))).setCells g i [.int .i64 x] := by
  have u22 := Try.underlying23
  unfold maxLen at hcm
  have hsa : w.shape? vb = some (3, 1) := by unfold World.shape?; rw [hx]; rfl
  have hsb : w.shape? g = some (3, cap) := by unfold World.shape?; rw [hg]; simp [hcs]
  have hfa : ∀ k, w.frozen? ⟨vb, k, none⟩ = false := fun k => by unfold World.frozen?; simp [hx]
  have hfz : ∀ k, w.frozen? ⟨g, k, none⟩ = false := fun k => by unfold World.frozen?; simp [hg]
  have hsp : ∀ k, k < cap → (w.cell? ⟨g, k, none⟩).isSome = true := fun k hk => by rw [heap_cell hg, Array.getElem?_eq_getElem (by omega)]; rfl
  have hcx : w.cell? ⟨vb, 0, none⟩ = some (.int .i64 x) := by rw [heap_cell hx]; rfl
  have hget : ∀ j v, (i64s xs)[j]? = some v → w.cell? ⟨g, j, none⟩ = some v := fun j v hj => by
    rw [heap_cell hg, ← Array.getElem?_toList]
    rw [← htake, List.getElem?_take] at hj
    split at hj
    · exact hj
    · cases hj
  have hov : ∀ lb cb, (callFunc 67 #[.slice (some ⟨vb, 0, none⟩) 1 1, .slice (some ⟨g, i + 1, none⟩) lb cb]).run Try.prog w = .ok (.value (.bool false)) w := fun lb cb => by
    rw [run_callFunc_extern Try.func67 (by kernel_rfl) (by kernel_rfl) (by kernel_rfl) (e := Extern.SlicesOverlaps.overlaps #[23, 23] #[4]) (by kernel_rfl),
      Lib.run_overlaps_apart w 23 4 3 u22 1 sizeInt ⟨vb, 0, none⟩ ⟨g, i + 1, none⟩ 1 1 lb cb hne 3 3 1 cap hsa hsb (by omega) (hfa 0) (hfa 1)]
    rfl
  have hdl : (i64s (xs.drop i)).length = xs.length - i := by rw [i64s_length, List.length_drop]
  have h1c : ∀ v ∈ i64s (xs.drop i), v.oneCell' = true := fun v hv => by obtain ⟨y, _, rfl⟩ := List.mem_map.1 hv; rfl
  have hget2 : ∀ j v, (i64s (xs.drop i))[j]? = some v → w.cell? ⟨g, i + j, none⟩ = some v := fun j v hj => hget (i + j) v (by
    unfold i64s at hj ⊢
    rwa [List.getElem?_map, List.getElem?_drop, ← List.getElem?_map] at hj)
  have hcp1 : ∀ ty dl dc sl sc, dl = xs.length - i → sl = xs.length + 1 - i → (Builtin.copy_ #[23, 23] ty #[.slice (some ⟨g, i + 1, none⟩) dl dc, .slice (some ⟨g, i, none⟩) sl sc]).run Try.prog w.drew = .ok (goInt (i64s (xs.drop i)).length) (w.drew.setCells g (i + 1) (i64s (xs.drop i))) := fun ty dl dc sl sc hdl1 hsl1 =>
    run_copy_cells w.drew _ _ ty 3 g (i + 1) dl dc ⟨g, i, none⟩ sl sc (i64s (xs.drop i)) u22 infoSizeInt (by rw [hdl]; simp only [Nat.min_def]; split <;> omega)
      (fun j v hj => by rw [Addr.add_lit]; exact hget2 j v hj)
      (fun j hj => by rw [hdl] at hj; exact hsp _ (by omega)) (fun j hj => hfz _) h1c
  obtain ⟨W1, hW1⟩ : ∃ W1, W1 = w.drew.setCells g (i + 1) (i64s (xs.drop i)) := ⟨_, rfl⟩
  have hsp1 : ∀ k, k < cap → (W1.cell? ⟨g, k, none⟩).isSome = true := fun k hk => by
    rw [hW1]
    exact isSome_setCells g _ _ _ (fun j hj => by rw [hdl] at hj; exact hsp _ (by omega)) _ (hsp k hk)
  have hcp2 : ∀ (W : World), (∀ x, W.cell? x = W1.cell? x) → (∀ x, W.frozen? x = W1.frozen? x) → ∀ ty dl dc, dl = xs.length + 1 - i → (Builtin.copy_ #[23, 23] ty #[.slice (some ⟨g, i, none⟩) dl dc, .slice (some ⟨vb, 0, none⟩) 1 1]).run Try.prog W = .ok (goInt [Value.int .i64 x].length) (W.setCells g i [.int .i64 x]) := fun W hWc hWf ty dl dc hdl1 =>
    run_copy_cells W _ _ ty 3 g i dl dc ⟨vb, 0, none⟩ 1 1 [.int .i64 x] u22 infoSizeInt (by simp only [Nat.min_def, List.length_singleton]; split <;> omega)
      (fun j v hj => by
        rw [Addr.add_lit, hWc, hW1, World.cell?_setCells_out g _ _ _ _ (fun h _ => absurd h hne)]
        cases j with
        | zero => obtain rfl : _ = v := by simpa using hj
                  exact hcx
        | succ j => simp at hj)
      (fun j hj => by rw [hWc]; simp at hj; exact hsp1 _ (by omega)) (fun j hj => by rw [hWf, hW1, World.frozen?_setCells]; exact hfz _) (by simp [Value.oneCell'])
  rw [← hW1] at hcp1
  have hw1 : IntKind.i64.wrap ((i : Int) + 1) = (i : Int) + 1 := by rw [IntKind.wrap_i64]; omega
  have hb1 : (0 : Int) ≤ (i : Int) + 1 := by omega
  have hin : i ≤ xs.length := by omega
  have htn : ((i : Int) + 1).toNat = i + 1 := by omega
  have hb2 : ¬ (cap = i + 1) := by omega
  have hb3 : (i : Int) ≤ (xs.length : Int) + 1 := by omega
  have hb4 : ¬ (cap = i) := by omega
  have hb5 : ¬ ((i : Int) = (xs.length : Int)) := by omega
  have mixed : Try.prog.follows .mixedOrders = true := by kernel_rfl
  have HW1 := hid hW1
  clear hW1 hsp1 hget2 hget hsp hfa hfz hsa hsb htake hcs hg hx hdl h1c
  generalize hN : xs.length = n at *
  go_enter Try.func60, Try.ntmps60
  go_wp2_with (simp only [hov])
  go_region_law_o (refine step_copy_runI rfl _ _ 23 23 rfl _ _ (by simp [Act.eval, Act.put]) (by simp [Act.eval, Act.put]) (hcp1 _ _ _ _ _ (by omega) (by omega)) ?_)
  go_wp2_with (at_builtin; refine wpList_copy_runI _ rfl _ _ 23 23 rfl _ _ rfl rfl (hcp2 _ (fun _ => rfl) (fun _ => rfl) _ _ _ (by omega)) ?_)
  go_ret
  exact ⟨rfl, by rw [HW1.out]⟩
set_option maxRecDepth 100000 in
set_option maxHeartbeats 4000000 in
/-- In a new row. -/
theorem InsertNew_c (xs : List Int) (x : Int) (i : Nat) (g vb cap : Nat) (cur : Array Value) (w : World) (hi : i < xs.length) (hnc : xs.length ≤ cap) (hroom : cap < xs.length + 1) (hn : xs.length < 20000000000000)
    (hg : w.heap[g]? = some (.cells cur 3 (0, 0))) (hcs : cur.size = cap) (htake : cur.toList.take xs.length = i64s xs)
    (hx : w.heap[vb]? = some (.cells #[.int .i64 x] 3 (0, 0))) :
    Calls Try.prog 60 #[.slice (some ⟨g, 0, none⟩) xs.length cap, .int .i64 (i : Int), .slice (some ⟨vb, 0, none⟩) 1 1] w fun e w' => ∃ (G : Nat) (ROW : Array Value), xs.length + 1 ≤ G ∧ xs.length + 1 ≤ ROW.size ∧ ROW.toList.take i = i64s (xs.take i) ∧
      e = .returned (.slice (some ⟨w.heap.size, 0, none⟩) (xs.length + 1) G) ∧
      w' = (((w.alloc (.cells ROW 3)).drew.setCells w.heap.size i [.int .i64 x]).drew).setCells w.heap.size (i + 1) (i64s (xs.drop i)) := by
  have u22 := Try.underlying23
  have u3 := Try.underlying3
  obtain ⟨i0, hi0, hz0, hzs, hzb⟩ := info_parts infoIntM
  have hgw : g < w.heap.size := heap_lt hg
  have hvw : vb < w.heap.size := heap_lt hx
  have hcx : w.cell? ⟨vb, 0, none⟩ = some (.int .i64 x) := by rw [heap_cell hx]; rfl
  have hget : ∀ j v, (i64s xs)[j]? = some v → w.cell? ⟨g, j, none⟩ = some v := fun j v hj => by
    rw [heap_cell hg, ← Array.getElem?_toList]
    rw [← htake, List.getElem?_take] at hj
    split at hj
    · exact hj
    · cases hj
  have htl : (i64s (xs.take i)).length = i := by rw [i64s_length, List.length_take]; omega
  have hold : (Builtin.firstCells i0.size i (.slice (some ⟨g, 0, none⟩) i cap)).run Try.prog w.drew = .ok (i64s (xs.take i)).toArray w.drew := by
    rw [hzs]
    exact run_firstCells_some w.drew 1 i ⟨g, 0, none⟩ i cap (i64s (xs.take i)) (by rw [htl]; omega) (fun j v hj => by
      rw [Addr.add_lit, Nat.zero_add]
      unfold i64s at hj
      rw [List.getElem?_map, List.getElem?_take] at hj
      refine hget j v ?_
      unfold i64s
      rw [List.getElem?_map]
      split at hj
      · exact hj
      · simp at hj)
  obtain ⟨G, hG⟩ : ∃ G, G = grownCap w (xs.length + 1) cap 3 := ⟨_, rfl⟩
  obtain ⟨ROW, hROW⟩ : ∃ ROW : Array Value, ROW = (i64s (xs.take i)).toArray ++ Builtin.zeroCells (Value.int .i64 0).cells (xs.length + 1 - i) ++ Builtin.zeroCells (Value.int .i64 0).cells (G - (xs.length + 1)) := ⟨_, rfl⟩
  have hik : i + (xs.length + 1 - i) = xs.length + 1 := by omega
  have hrz : ∀ ty, (Builtin.append_ #[23, 3] ty #[.slice (some ⟨g, 0, none⟩) i cap, .int .i64 ((xs.length : Int) + 1 - (i : Int))]).run Try.prog w =
      .ok (.slice (some ⟨w.heap.size, 0, none⟩) (xs.length + 1) G) (w.drew.alloc (.cells ROW 3)) := fun ty => by
    have h := Lib.run_append_grow_zeros w 23 3 ty 3 i0 _ .i64 .i64 u22 u3 hi0 hz0 (some ⟨g, 0, none⟩) i cap (i64s (xs.take i)) hold (xs.length + 1 - i) (by omega) (by omega) (by omega) (by omega) (by rw [hzb]; omega) (by rw [hzb, hik]; exact growslice_fits_wide hroom (by omega))
    rw [hik] at h
    rw [show (xs.length : Int) + 1 - (i : Int) = ((xs.length + 1 - i : Nat) : Int) by omega, hROW, hG]
    exact h
  have hRl : xs.length + 1 ≤ ROW.size := by
    rw [hROW]
    simp only [Builtin.zeroCells, Value.cells, Array.size_append, List.size_toArray, htl]
    simp
    omega
  have hRt : ROW.toList.take i = i64s (xs.take i) := by
    rw [hROW]
    simp only [Array.toList_append, List.append_assoc]
    exact List.take_left' htl
  obtain ⟨W1, hW1⟩ : ∃ W1, W1 = w.drew.alloc (.cells ROW 3) := ⟨_, rfl⟩
  rw [← hW1] at hrz
  have hN : ∀ j, j < xs.length + 1 → (W1.cell? ⟨w.heap.size, j, none⟩).isSome = true := fun j hj => by
    rw [hW1, World.cell?_alloc_at (w := w.drew) ROW _ w.heap.size j rfl, Array.getElem?_eq_getElem (by omega)]; rfl
  have hNf : ∀ j, W1.frozen? ⟨w.heap.size, j, none⟩ = false := fun j => by rw [hW1]; exact World.frozen?_alloc_at (w := w.drew) ROW _ w.heap.size j rfl
  have hOb : ∀ j v, w.cell? ⟨g, j, none⟩ = some v → W1.cell? ⟨g, j, none⟩ = some v := fun j v h => by rw [hW1, World.cell?_alloc_past (w := w.drew) _ g j hgw]; exact h
  have hOv : ∀ j v, w.cell? ⟨vb, j, none⟩ = some v → W1.cell? ⟨vb, j, none⟩ = some v := fun j v h => by rw [hW1, World.cell?_alloc_past (w := w.drew) _ vb j hvw]; exact h
  have hcpA : ∀ (W : World), (∀ x, W.cell? x = W1.cell? x) → (∀ x, W.frozen? x = W1.frozen? x) → ∀ ty dl dc, dl = xs.length + 1 - i → (Builtin.copy_ #[23, 23] ty #[.slice (some ⟨w.heap.size, i, none⟩) dl dc, .slice (some ⟨vb, 0, none⟩) 1 1]).run Try.prog W = .ok (goInt [Value.int .i64 x].length) (W.setCells w.heap.size i [.int .i64 x]) := fun W hWc hWf ty dl dc hdl1 =>
    run_copy_cells W _ _ ty 3 w.heap.size i dl dc ⟨vb, 0, none⟩ 1 1 [.int .i64 x] u22 infoSizeInt (by simp only [Nat.min_def, List.length_singleton]; split <;> omega)
      (fun j v hj => by
        rw [Addr.add_lit, hWc]
        cases j with
        | zero => obtain rfl : _ = v := by simpa using hj
                  exact hOv _ _ hcx
        | succ j => simp at hj)
      (fun j hj => by rw [hWc]; simp at hj; exact hN _ (by omega)) (fun j hj => by rw [hWf]; exact hNf _) (by simp [Value.oneCell'])
  have hGn : xs.length + 1 ≤ G := by rw [hG]; exact grownCap_ge w _ _ _
  have hG63 : G ≤ 9223372036854775807 := by
    have := grownCap_le_maxLen w (xs.length + 1) cap 3 (by unfold maxLen; omega)
    rw [← hG] at this
    unfold maxLen at this
    omega
  have hGi : ¬ (G = i) := by omega
  have hGim : ¬ (G = i + 1) := by omega
  have hci : ¬ (cap = i) := by omega
  have hbN : g ≠ w.heap.size := by omega
  have hdl : (i64s (xs.drop i)).length = xs.length - i := by rw [i64s_length, List.length_drop]
  have h1c : ∀ v ∈ i64s (xs.drop i), v.oneCell' = true := fun v hv => by obtain ⟨y, _, rfl⟩ := List.mem_map.1 hv; rfl
  have hget2 : ∀ j v, (i64s (xs.drop i))[j]? = some v → w.cell? ⟨g, i + j, none⟩ = some v := fun j v hj => hget (i + j) v (by
    unfold i64s at hj ⊢
    rwa [List.getElem?_map, List.getElem?_drop, ← List.getElem?_map] at hj)
  have hcpB : ∀ (W : World), (∀ y, W.cell? y = (W1.setCells w.heap.size i [.int .i64 x]).cell? y) → (∀ y, W.frozen? y = (W1.setCells w.heap.size i [.int .i64 x]).frozen? y) → ∀ ty dl dc sl sc, dl = xs.length - i → sl = xs.length - i → (Builtin.copy_ #[23, 23] ty #[.slice (some ⟨w.heap.size, i + 1, none⟩) dl dc, .slice (some ⟨g, i, none⟩) sl sc]).run Try.prog W = .ok (goInt (i64s (xs.drop i)).length) (W.setCells w.heap.size (i + 1) (i64s (xs.drop i))) := fun W hWc hWf ty dl dc sl sc hdl1 hsl1 =>
    run_copy_cells W _ _ ty 3 w.heap.size (i + 1) dl dc ⟨g, i, none⟩ sl sc (i64s (xs.drop i)) u22 infoSizeInt (by rw [hdl]; simp only [Nat.min_def]; split <;> omega)
      (fun j v hj => by
        rw [Addr.add_lit, hWc, World.cell?_setCells_out _ _ _ _ _ (fun h _ => absurd h hbN)]
        exact hOb _ v (hget2 j v hj))
      (fun j hj => by rw [hdl] at hj; rw [hWc]; exact isSome_setCells _ _ _ _ (fun t ht => by simp at ht; exact hN _ (by omega)) _ (hN _ (by omega)))
      (fun j hj => by rw [hWf, World.frozen?_setCells]; exact hNf _) h1c
  subst hW1
  have hE1 : ∀ x, ((w.alloc (.cells ROW 3)).drew).cell? x = (w.drew.alloc (.cells ROW 3)).cell? x := fun x => rfl
  have hE2 : ∀ x, ((w.alloc (.cells ROW 3)).drew).frozen? x = (w.drew.alloc (.cells ROW 3)).frozen? x := fun x => rfl
  have hF1 : ∀ y, (((w.alloc (.cells ROW 3)).drew.setCells w.heap.size i [.int .i64 x]).drew).cell? y = ((w.drew.alloc (.cells ROW 3)).setCells w.heap.size i [.int .i64 x]).cell? y := fun x => rfl
  have hF2 : ∀ y, (((w.alloc (.cells ROW 3)).drew.setCells w.heap.size i [.int .i64 x]).drew).frozen? y = ((w.drew.alloc (.cells ROW 3)).setCells w.heap.size i [.int .i64 x]).frozen? y := fun x => rfl
  have hw1 : IntKind.i64.wrap ((i : Int) + 1) = (i : Int) + 1 := by rw [IntKind.wrap_i64]; omega
  have hb1 : (0 : Int) ≤ (i : Int) + 1 := by omega
  have hin : i ≤ xs.length := by omega
  have htn : ((i : Int) + 1).toNat = i + 1 := by omega
  have hb3 : (i : Int) ≤ (xs.length : Int) := by omega
  have hb5 : ¬ ((i : Int) = (xs.length : Int)) := by omega
  have mixed : Try.prog.follows .mixedOrders = true := by kernel_rfl
  have HR := hid (And.intro hRl hRt)
  clear hik hold hROW hG hRl hRt hget hget2 htake hcs hg hx hdl h1c htl hN hNf hOb hOv hcx
  generalize hN : xs.length = n at *
  go_enter Try.func60, Try.ntmps60
  go_wp2_with (first
    | (at_builtin; refine Lib.wpList_append_run _ rfl _ _ _ _ rfl _ _ rfl rfl _ _ (hrz _) ?_)
    | (at_builtin; refine wpList_copy_runI _ rfl _ _ 23 23 rfl _ _ rfl rfl (hcpA _ hE1 hE2 _ _ _ (by omega)) ?_))
  go_region_law_o (refine step_copy_runI rfl _ _ 23 23 rfl (.slice (some ⟨w.heap.size, i + 1, none⟩) (n - i) (G - (i + 1))) (.slice (some ⟨g, i, none⟩) (n - i) (cap - i)) (by simp [Act.eval, Act.put]) (by simp [Act.eval, Act.put]) (hcpB _ hF1 hF2 3 (n - i) (G - (i + 1)) (n - i) (cap - i) rfl rfl) ?_)
  go_wp2
  go_ret
  exact ⟨G, ROW, by omega, by have := HR.out.1; omega, HR.out.2, rfl, rfl⟩
theorem Insert_c (xs : List Int) (x : Int) (i : Nat) (v : Value) (w : World) (base vb : Nat) (hi : i ≤ xs.length) (hb : base ≤ w.heap.size) (hn : xs.length < 20000000000000) (hv : w.ownsRow base 3 1 v xs.length (i64s xs))
    (hx : w.heap[vb]? = some (.cells #[.int .i64 x] 3 (0, 0))) (hvb : ∀ k, v.ownBlock = some k → vb ≠ k) :
    Calls Try.prog 60 #[v, .int .i64 (i : Int), .slice (some ⟨vb, 0, none⟩) 1 1] w fun e w' => ∃ v', e = .returned v' ∧ IntsF base w' v' (xs.take i ++ x :: xs.drop i) ∧ Below base w w' := by
  by_cases he : i = xs.length
  · subst he
    rw [List.take_length, List.drop_length]
    exact InsertEnd_c xs x v w base vb hb hn hv hx
  · rcases hv.2 with ⟨rfl, hz⟩ | ⟨g, cap, cur, rfl, hbg, hg, hnc, hcm, hcs, htake⟩
    · omega
    · rw [Nat.mul_one] at hcs htake
      have hget : ∀ j, j < xs.length → w.cell? ⟨g, j, none⟩ = some (.int .i64 (xs.getD j 0)) := fun j hj => by
        have := hv.cellAt j (by omega)
        rw [i64s_at hj] at this
        exact this
      have hDl : (i64s (xs.drop i)).length = xs.length - i := by rw [i64s_length, List.length_drop]
      by_cases hroom : xs.length + 1 ≤ cap
      · have hsp : ∀ k, k < cap → (w.cell? ⟨g, k, none⟩).isSome = true := fun k hk => by rw [heap_cell hg, Array.getElem?_eq_getElem (by omega)]; rfl
        refine (InsertIn_c xs x i g vb cap cur w (by omega) hroom hcm hg hcs htake hx (hvb g rfl)).mono ?_
        rintro e w' ⟨rfl, rfl⟩
        have hsp1 : ∀ k, k < cap → ((w.drew.setCells g (i + 1) (i64s (xs.drop i))).cell? ⟨g, k, none⟩).isSome = true := fun k hk => isSome_setCells g _ _ _ (fun j hj => by rw [hDl] at hj; exact hsp _ (by omega)) _ (hsp k hk)
        refine ⟨_, rfl, ⟨Ints.put hi hn hroom ?_ ?_ ?_, Lies.at hbg⟩, Below.setCellsM hbg _ _ _ (Below.setCellsM hbg _ _ _ (Below.refl _ _).drew)⟩
        · intro k hk
          rw [World.cell?_setCells_out g _ _ _ _ (fun _ _ => .inl hk), World.cell?_setCells_out g _ _ _ _ (fun _ _ => .inl (by show k < i + 1; omega))]
          exact hget k (by omega)
        · have := World.cell?_setCells_in g [Value.int .i64 x] i (w.drew.setCells g (i + 1) (i64s (xs.drop i))) (fun j hj => by simp at hj; subst hj; exact hsp1 _ (by omega)) 0 (by simp)
          simpa using this
        · intro k h1 h2
          rw [World.cell?_setCells_out g _ _ _ _ (fun _ _ => .inr (by show i + 1 ≤ k + 1; omega))]
          have := World.cell?_setCells_in g (i64s (xs.drop i)) (i + 1) w.drew (fun j hj => by rw [hDl] at hj; exact hsp _ (by omega)) (k - i) (by rw [hDl]; omega)
          rw [show i + 1 + (k - i) = k + 1 by omega] at this
          rw [this, ← List.getElem?_eq_getElem, i64s_drop_at (by omega), show i + (k - i) = k by omega]
      · refine (InsertNew_c xs x i g vb cap cur w (by omega) hnc (by omega) hn hg hcs htake hx).mono ?_
        rintro e w' ⟨G, ROW, hGn, hR, hT, rfl, rfl⟩
        have hc0 : ∀ j, (w.alloc (.cells ROW 3)).drew.cell? ⟨w.heap.size, j, none⟩ = ROW[j]? := fun j => World.cell?_alloc_at (w := w) ROW _ w.heap.size j rfl
        have hs0 : ∀ j, j < xs.length + 1 → ((w.alloc (.cells ROW 3)).drew.cell? ⟨w.heap.size, j, none⟩).isSome = true := fun j hj => by rw [hc0, Array.getElem?_eq_getElem (by omega)]; rfl
        have hs1 : ∀ j, j < xs.length + 1 → ((((w.alloc (.cells ROW 3)).drew.setCells w.heap.size i [.int .i64 x]).drew).cell? ⟨w.heap.size, j, none⟩).isSome = true := fun j hj =>
          isSome_setCells w.heap.size _ _ _ (fun t ht => by simp at ht; subst ht; exact hs0 _ (by omega)) _ (hs0 j hj)
        refine ⟨_, rfl, ⟨Ints.put hi hn (by omega) ?_ ?_ ?_, Lies.at hb⟩, Below.setCellsM hb _ _ _ (Below.setCellsM hb _ _ _ ((Below.refl _ _).alloc hb _).drew).drew⟩
        · intro k hk
          rw [World.cell?_setCells_out _ _ _ _ _ (fun _ _ => .inl (by show k < i + 1; omega))]
          refine (World.cell?_setCells_out w.heap.size [Value.int .i64 x] i (w.alloc (.cells ROW 3)).drew ⟨w.heap.size, k, none⟩ (fun _ _ => .inl hk)).trans ?_
          rw [hc0, ← Array.getElem?_toList]
          have := congrArg (fun l : List Value => l[k]?) hT
          simp only [List.getElem?_take, if_pos hk] at this
          rw [this, i64s_at (by rw [List.length_take]; omega), List.getD_eq_getElem?_getD, List.getElem?_take, if_pos hk, List.getD_eq_getElem?_getD]
        · rw [World.cell?_setCells_out _ _ _ _ _ (fun _ _ => .inl (by show i < i + 1; omega))]
          have := World.cell?_setCells_in w.heap.size [Value.int .i64 x] i (w.alloc (.cells ROW 3)).drew (fun j hj => by simp at hj; subst hj; exact hs0 _ (by omega)) 0 (by simp)
          exact this
        · intro k h1 h2
          have := World.cell?_setCells_in w.heap.size (i64s (xs.drop i)) (i + 1) (((w.alloc (.cells ROW 3)).drew.setCells w.heap.size i [.int .i64 x]).drew) (fun j hj => by rw [hDl] at hj; exact hs1 _ (by omega)) (k - i) (by rw [hDl]; omega)
          rw [show i + 1 + (k - i) = k + 1 by omega] at this
          rw [this, ← List.getElem?_eq_getElem, i64s_drop_at (by omega), show i + (k - i) = k by omega]
end Go.Proofs.Ytlhgdbangnohjaa
