/- What slices.Insert leaves of a list of operations, one put in at any place. -/
import Derived.Test.YtljimlaalebmaaaHMem
import Derived.Deep.AppendLies
import Derived.Lib.AppendZeros
import Derived.Deep.RegionLaw
import Derived.Shelf.RegionOpen
import Derived.Shelf.Spec.SlicesInsertGrow
import Derived.Deep.QuietTactic
namespace Go.Proofs.Ytljimlaalebmaaa
open Go.RowKit
set_option linter.unusedVariables false
set_option linter.unusedSimpArgs false
theorem heap_newAt (w : World) (o : Obj) {g : Nat} (h : g = w.heap.size) : (w.alloc o).heap[g]? = some o := by
  subst h
  exact heap_new w o
theorem Moved.of_grownBy {p : Nat} {row : Option Nat} {w w' : World} (h : w.grownBy w' row) : Moved p row w w' := ⟨h.os, h.tape, h.output, h.size, fun k hk _ hr => h.block k hk hr⟩
/-- A list with one put in at a place. -/
def putAt (i : Nat) (x : OpR) (l : List OpR) : List OpR := l.take i ++ x :: l.drop i
theorem putAt_length (i : Nat) (x : OpR) (l : List OpR) (hi : i ≤ l.length) : (putAt i x l).length = l.length + 1 := by
  unfold putAt
  rw [List.length_append, List.length_cons, List.length_take, List.length_drop]
  omega
theorem putAt_cells (i : Nat) (x : OpR) (l : List OpR) : opCells (putAt i x l) = opCells (l.take i) ++ (x.row ++ opCells (l.drop i)) := by
  unfold putAt
  rw [opCells_append]
  congr 1
theorem take_cells (i : Nat) (l : List OpR) (hi : i ≤ l.length) : (opCells (l.take i)).length = i * 11 := by rw [opCells_length, List.length_take]; rw [Nat.min_eq_left (by omega)]
theorem drop_cells (i : Nat) (l : List OpR) : (opCells (l.drop i)).length = (l.length - i) * 11 := by rw [opCells_length, List.length_drop]
theorem split_cells (i : Nat) (l : List OpR) : opCells l = opCells (l.take i) ++ opCells (l.drop i) := by rw [← opCells_append, List.take_append_drop]
/-- The tail moved on, then one put ahead of it. -/
theorem put_cells {W : World} {g : Nat} {e : TypeId} {N : Nat} (l : List OpR) (x : OpR) (i : Nat) (hi : i ≤ l.length) (hs : Sized W g e N) (hN : (l.length + 1) * 11 ≤ N) (hc : ∀ j, j < i * 11 → W.cell? ⟨g, j, none⟩ = (opCells l)[j]?) :
    ∀ j, j < (l.length + 1) * 11 → ((W.setCells g ((i + 1) * 11) (opCells (l.drop i))).setCells g (i * 11) x.row).cell? ⟨g, j, none⟩ = (opCells (putAt i x l))[j]? := by
  intro j hj
  have hA := take_cells i l hi
  have hD := drop_cells i l
  rw [putAt_cells]
  have hs1 := Sized.sets (e := e) g (opCells (l.drop i)) ((i + 1) * 11) W hs
  by_cases h1 : j < i * 11
  · rw [World.cell?_setCells_out g _ _ _ _ (fun _ _ => .inl (by show j < i * 11; exact h1)), World.cell?_setCells_out g _ _ _ _ (fun _ _ => .inl (by show j < (i + 1) * 11; omega)), hc j h1, split_cells i l,
      List.getElem?_append_left (by rw [hA]; exact h1), List.getElem?_append_left (by rw [hA]; exact h1)]
  · rw [List.getElem?_append_right (by rw [hA]; omega), hA]
    by_cases h2 : j < (i + 1) * 11
    · have := World.cell?_setCells_in g x.row (i * 11) (W.setCells g ((i + 1) * 11) (opCells (l.drop i))) (fun q hq => hs1.isSome _ (by rw [row_length] at hq; omega)) (j - i * 11) (by rw [row_length]; omega)
      rw [show i * 11 + (j - i * 11) = j by omega] at this
      rw [this, List.getElem?_append_left (by rw [row_length]; omega), List.getElem?_eq_getElem]
    · rw [World.cell?_setCells_out g _ _ _ _ (fun _ _ => .inr (by rw [row_length]; show i * 11 + 11 ≤ j; omega)), List.getElem?_append_right (by rw [row_length]; omega), row_length]
      have := World.cell?_setCells_in g (opCells (l.drop i)) ((i + 1) * 11) W (fun q hq => hs.isSome _ (by rw [hD] at hq; omega)) (j - (i + 1) * 11) (by rw [hD]; omega)
      rw [show (i + 1) * 11 + (j - (i + 1) * 11) = j by omega] at this
      rw [this, show j - i * 11 - 11 = j - (i + 1) * 11 by omega, List.getElem?_eq_getElem]
/-- The other way about. -/
theorem put_cells2 {W W' : World} {g : Nat} {e : TypeId} {N : Nat} (l : List OpR) (x : OpR) (i : Nat) (hi : i ≤ l.length) (hs : Sized W g e N) (hN : (l.length + 1) * 11 ≤ N) (hc : ∀ j, j < i * 11 → W.cell? ⟨g, j, none⟩ = (opCells l)[j]?)
    (hW : ∀ y, W'.cell? y = (W.setCells g (i * 11) x.row).cell? y) (hs' : Sized W' g e N) :
    ∀ j, j < (l.length + 1) * 11 → (W'.setCells g ((i + 1) * 11) (opCells (l.drop i))).cell? ⟨g, j, none⟩ = (opCells (putAt i x l))[j]? := by
  intro j hj
  have hA := take_cells i l hi
  have hD := drop_cells i l
  rw [putAt_cells]
  by_cases h1 : j < i * 11
  · rw [World.cell?_setCells_out g _ _ _ _ (fun _ _ => .inl (by show j < (i + 1) * 11; omega)), hW, World.cell?_setCells_out g _ _ _ _ (fun _ _ => .inl (by show j < i * 11; exact h1)), hc j h1, split_cells i l,
      List.getElem?_append_left (by rw [hA]; exact h1), List.getElem?_append_left (by rw [hA]; exact h1)]
  · rw [List.getElem?_append_right (by rw [hA]; omega), hA]
    by_cases h2 : j < (i + 1) * 11
    · have := World.cell?_setCells_in g x.row (i * 11) W (fun q hq => hs.isSome _ (by rw [row_length] at hq; omega)) (j - i * 11) (by rw [row_length]; omega)
      rw [show i * 11 + (j - i * 11) = j by omega] at this
      rw [World.cell?_setCells_out g _ _ _ _ (fun _ _ => .inl (by show j < (i + 1) * 11; exact h2)), hW, this, List.getElem?_append_left (by rw [row_length]; omega), List.getElem?_eq_getElem]
    · rw [List.getElem?_append_right (by rw [row_length]; omega), row_length]
      have := World.cell?_setCells_in g (opCells (l.drop i)) ((i + 1) * 11) W' (fun q hq => hs'.isSome _ (by rw [hD] at hq; omega)) (j - (i + 1) * 11) (by rw [hD]; omega)
      rw [show (i + 1) * 11 + (j - (i + 1) * 11) = j by omega] at this
      rw [this, show j - i * 11 - 11 = j - (i + 1) * 11 by omega, List.getElem?_eq_getElem]
theorem drew_cellH (w : World) (y : Addr) : w.drew.cell? y = w.cell? y := rfl
theorem drew_frozenH (w : World) (y : Addr) : w.drew.frozen? y = w.frozen? y := rfl
theorem alloc_drewH (w : World) (o : Obj) : (w.alloc o).drew = w.drew.alloc o := rfl
theorem sizeOp (w : World) : (Go.sizeOf 25).run Try.prog w = .ok 11 w := by
  obtain ⟨i0, hi, -, -, -⟩ := info_parts infoOpM
  rw [run_sizeOf w hi]
  have : Try.prog.cellsOf 25 = 11 := by kernel_rfl
  rw [this]
theorem infoSizeOp : (Try.prog.info? 25).map (·.size) = some 11 := by
  obtain ⟨i0, hi, -, h1, -⟩ := info_parts infoOpM
  rw [hi]; simp [h1]
theorem row_one (x : OpR) : ∀ u ∈ x.row, u.oneCell' = true := by
  intro u hu
  exact opCells_one [x] u (by rw [cells_one]; exact hu)
set_option maxRecDepth 100000 in
set_option maxHeartbeats 4000000 in
/-- At the end. -/
theorem InsertEnd_c (l : List OpR) (x : OpR) (v : Value) (w : World) (base vb : Nat) (hb : base ≤ w.heap.size) (hv : w.ownsRow base 25 11 v l.length (opCells l)) (hl : l.length ≤ 1000000)
    (hx : w.heap[vb]? = some (.cells x.row.toArray 25 (0, 0))) :
    Calls Try.prog 26 #[v, .int .i64 (l.length : Int), .slice (some ⟨vb, 0, none⟩) 1 1] w (InsPost base v (putAt l.length x l) w) := by
  have HV := hid hv
  obtain ⟨i0, hi, hz0, hz1, hz2⟩ := info_parts infoOpM
  have HX := hid (World.news_of_block hx)
  clear hx
  have u63 := Try.underlying23
  have hform : ∃ A c, v = .slice A l.length c ∧ l.length ≤ c := by
    rcases hv.2 with ⟨h, h0⟩ | ⟨g, cap, cur, h, _, _, h2, _⟩
    · exact ⟨none, 0, by rw [h, h0], by omega⟩
    · exact ⟨_, cap, h, h2⟩
  obtain ⟨A, c, rfl, hlc⟩ := hform
  clear hv
  have HP := hid (show opCells l ++ x.row = opCells (putAt l.length x l) ∧ (putAt l.length x l).length = l.length + 1 from by
    rw [putAt_cells, putAt_length _ _ _ (Nat.le_refl _), List.take_length, List.drop_length]
    simp [opCells])
  generalize putAt l.length x l = z at *
  generalize hN : l.length = n at *
  have hb1 : ¬ (n : Int) < 0 := by omega
  clear hN
  by_cases hcn : c = n
  · obtain rfl : n = c := hcn.symm
    clear hcn hlc
    go_enter Try.func26, Try.ntmps26
    go_wp2_with (at_builtin; refine wpList_append_lies _ rfl _ _ 23 rfl base 25 i0 _ 11 88 u63 hi hz0 hz1 hz2 rfl (by decide) _ n (opCells l) rfl HV.out ⟨vb, 0, none⟩ 1 1 x.row rfl rfl HX.out (row_one x) (by omega) (by unfold maxLen; omega) (by omega) hb _ rfl ?_; intro g cap w' ho hgr hat hlt)
    all_goals go_ret
    all_goals exact ⟨_, rfl, by rw [HP.out.2, ← HP.out.1]; exact ho, fun p => Moved.of_grownBy hgr, fun k hk => by
      rcases hat with h | h
      · exact .inl (h.trans hk)
      · right
        have e : g = k := Option.some.inj hk
        omega⟩
  · go_enter Try.func26, Try.ntmps26
    go_wp2_with (at_builtin; refine wpList_append_lies _ rfl _ _ 23 rfl base 25 i0 _ 11 88 u63 hi hz0 hz1 hz2 rfl (by decide) _ n (opCells l) rfl HV.out ⟨vb, 0, none⟩ 1 1 x.row rfl rfl HX.out (row_one x) (by omega) (by unfold maxLen; omega) (by omega) hb _ rfl ?_; intro g cap w' ho hgr hat hlt)
    all_goals go_ret
    all_goals exact ⟨_, rfl, by rw [HP.out.2, ← HP.out.1]; exact ho, fun p => Moved.of_grownBy hgr, fun k hk => by
      rcases hat with h | h
      · exact .inl (h.trans hk)
      · right
        have e : g = k := Option.some.inj hk
        omega⟩
set_option maxRecDepth 100000 in
set_option maxHeartbeats 4000000 in
/-- In place. -/
theorem InsertIn_c (l : List OpR) (x : OpR) (i g vb c : Nat) (w : World) (base : Nat) (hv : w.ownsRow base 25 11 (.slice (some ⟨g, 0, none⟩) l.length c) l.length (opCells l)) (hi : i < l.length) (hl : l.length ≤ 1000000) (hroom : l.length + 1 ≤ c)
    (hx : w.heap[vb]? = some (.cells x.row.toArray 25 (0, 0))) (hne : vb ≠ g) :
    Calls Try.prog 26 #[.slice (some ⟨g, 0, none⟩) l.length c, .int .i64 (i : Int), .slice (some ⟨vb, 0, none⟩) 1 1] w (InsPost base (.slice (some ⟨g, 0, none⟩) l.length c) (putAt i x l) w) := by
  have u63 := Try.underlying23
  obtain ⟨hsz, -, hcm, hbg, -⟩ := own_sized hv
  have hcm2 := hcm
  unfold maxLen at hcm2
  have hcells : ∀ j, j < l.length * 11 → w.cell? ⟨g, j, none⟩ = (opCells l)[j]? := fun j hj => hv.cellAt j hj
  have hsa : w.shape? vb = some (25, 11) := by unfold World.shape?; rw [hx]; rfl
  have hsb : w.shape? g = some (25, c * 11) := by obtain ⟨cur, h1, h2⟩ := hsz; unfold World.shape?; rw [h1]; simp [h2]
  have hfa : ∀ k, w.frozen? ⟨vb, k, none⟩ = false := fun k => heap_frozen hx k (by omega)
  have hD := drop_cells i l
  have hov : ∀ lb cb, (callFunc 41 #[.slice (some ⟨vb, 0, none⟩) 1 1, .slice (some ⟨g, (i + 1) * 11, none⟩) lb cb]).run Try.prog w = .ok (.value (.bool false)) w := fun lb cb => by
    rw [run_callFunc_extern Try.func41 (by kernel_rfl) (by kernel_rfl) (by kernel_rfl) (e := Extern.SlicesOverlaps.overlaps #[23, 23] #[4]) (by kernel_rfl),
      Lib.run_overlaps_apart w 23 4 25 u63 11 sizeOp ⟨vb, 0, none⟩ ⟨g, (i + 1) * 11, none⟩ 1 1 lb cb hne 25 25 11 (c * 11) hsa hsb (by omega) (hfa 0) (hfa _)]
    rfl
  have hcp1 : ∀ ty dl dc sl sc, dl = l.length - i → sl = l.length + 1 - i → (Builtin.copy_ #[23, 23] ty #[.slice (some ⟨g, (i + 1) * 11, none⟩) dl dc, .slice (some ⟨g, i * 11, none⟩) sl sc]).run Try.prog w.drew = .ok (goInt ((l.length - i : Nat) : Int)) (w.drew.setCells g ((i + 1) * 11) (opCells (l.drop i))) := fun ty dl dc sl sc h1 h2 =>
    run_copy_cellsK w.drew _ _ ty 25 g ((i + 1) * 11) dl dc ⟨g, i * 11, none⟩ sl sc 11 (l.length - i) (opCells (l.drop i)) u63 infoSizeOp (by subst h1 h2; simp only [Nat.min_def]; split <;> omega) hD
      (fun j u hj => by
        have hjl : j < (l.length - i) * 11 := by
          have := (List.getElem?_eq_some_iff.1 hj).1
          rwa [hD] at this
        rw [Addr.add_lit]
        refine (hcells (i * 11 + j) (by omega)).trans ?_
        rw [split_cells i l, List.getElem?_append_right (by rw [take_cells i l (by omega)]; omega), take_cells i l (by omega), show i * 11 + j - i * 11 = j by omega]
        exact hj)
      (fun j hj => by rw [hD] at hj; exact hsz.isSome _ (by omega)) (fun j hj => hsz.free _) (opCells_one _)
  obtain ⟨W1, hW1⟩ : ∃ W1, W1 = w.drew.setCells g ((i + 1) * 11) (opCells (l.drop i)) := ⟨_, rfl⟩
  have hs1 : Sized W1 g 25 (c * 11) := by rw [hW1]; exact Sized.sets g _ _ _ (hsz.grow (Grow.drew _))
  have hx1 : ∀ j, W1.cell? ⟨vb, j, none⟩ = (x.row.toArray)[j]? := fun j => by
    rw [hW1, World.cell?_setCells_out g _ _ _ _ (fun h _ => absurd h hne)]
    exact heap_cell (w := w.drew) hx j
  have hcp2 : ∀ (W : World), (∀ x, W.cell? x = W1.cell? x) → (∀ x, W.frozen? x = W1.frozen? x) → ∀ ty dl dc, dl = l.length + 1 - i → (Builtin.copy_ #[23, 23] ty #[.slice (some ⟨g, i * 11, none⟩) dl dc, .slice (some ⟨vb, 0, none⟩) 1 1]).run Try.prog W = .ok (goInt 1) (W.setCells g (i * 11) x.row) := fun W hWc hWf ty dl dc h1 =>
    run_copy_cellsK W _ _ ty 25 g (i * 11) dl dc ⟨vb, 0, none⟩ 1 1 11 1 x.row u63 infoSizeOp (by subst h1; simp only [Nat.min_def]; split <;> omega) rfl
      (fun j u hj => by rw [Addr.add_lit, Nat.zero_add, hWc, hx1]; simpa using hj)
      (fun j hj => by rw [hWc]; rw [row_length] at hj; exact hs1.isSome _ (by omega)) (fun j hj => by rw [hWf]; exact hs1.free _) (row_one x)
  have HEND := hid (show ((W1.setCells g (i * 11) x.row).ownsRow base 25 11 (.slice (some ⟨g, 0, none⟩) (l.length + 1) c) (l.length + 1) (opCells (putAt i x l))) ∧ ∀ p, Moved p (some g) w (W1.setCells g (i * 11) x.row) from by
    constructor
    · refine own_of_cells hbg (Sized.sets g _ _ _ hs1) hroom hcm (by rw [opCells_length, putAt_length i x l (by omega)]) ?_
      rw [hW1]
      exact put_cells (e := 25) l x i (by omega) (hsz.grow (Grow.drew _)) (by omega) (fun j hj => hcells j (by omega))
    · intro p
      rw [hW1]
      exact Moved.setCells (.inr (.inl rfl)) _ _ _ (Moved.setCells (.inr (.inl rfl)) _ _ _ (Moved.of_grow (Grow.drew _))))
  rw [← hW1] at hcp1
  have HW1 := hid hW1
  have HZ := hid (putAt_length i x l (by omega))
  clear hv hsz hcm hbg hcells hsa hsb hfa hD hs1 hx1 hW1 hx
  generalize putAt i x l = z at *
  obtain ⟨n, hN⟩ : ∃ n, n = l.length := ⟨_, rfl⟩
  rw [← hN] at hi hl hroom hcp1 hcp2 HEND HZ ⊢
  clear hN
  have hw1 : IntKind.i64.wrap ((i : Int) + 1) = (i : Int) + 1 := by rw [IntKind.wrap_i64]; omega
  have hw2 : IntKind.i64.wrap ((n : Int) + 1) = (n : Int) + 1 := by rw [IntKind.wrap_i64]; omega
  have hb1 : (0 : Int) ≤ (i : Int) + 1 := by omega
  have hin : i ≤ n := by omega
  have htn : ((i : Int) + 1).toNat = i + 1 := by omega
  have htn2 : ((n : Int) + 1).toNat = n + 1 := by omega
  have hb2 : ¬ (c = i + 1) := by omega
  have hb3 : (i : Int) ≤ (n : Int) + 1 := by omega
  have hb4 : ¬ (c = i) := by omega
  have hb5 : ¬ ((i : Int) = (n : Int)) := by omega
  have hb6 : (n : Int) + 1 ≤ (c : Int) := by omega
  have mixed : Try.prog.follows .mixedOrders = true := by kernel_rfl
  go_enter Try.func26, Try.ntmps26
  go_wp2_with (simp only [hov])
  go_region_law_o (refine step_copy_runI rfl _ _ 23 23 rfl (.slice (some ⟨g, (i + 1) * 11, none⟩) (n - i) (c - (i + 1))) (.slice (some ⟨g, i * 11, none⟩) (n + 1 - i) (c - i)) (by simp [Act.eval, Act.put]) (by simp [Act.eval, Act.put]) (hcp1 3 (n - i) (c - (i + 1)) (n + 1 - i) (c - i) rfl rfl) ?_)
  go_wp2_with (at_builtin; refine wpList_copy_runI _ rfl _ _ 23 23 rfl _ _ rfl rfl (hcp2 _ (fun _ => rfl) (fun _ => rfl) _ _ _ (by omega)) ?_)
  go_ret
  refine ⟨.slice (some ⟨g, 0, none⟩) (n + 1) c, rfl, ?_, HEND.out.2, fun k hk => .inl hk⟩
  rw [HZ.out]
  exact HEND.out.1
set_option maxRecDepth 100000 in
set_option maxHeartbeats 4000000 in
/-- In a new row. -/
theorem InsertNew_c (l : List OpR) (x : OpR) (i g vb c : Nat) (w : World) (base : Nat) (hbw : base ≤ w.heap.size) (hv : w.ownsRow base 25 11 (.slice (some ⟨g, 0, none⟩) l.length c) l.length (opCells l)) (hi : i < l.length) (hl : l.length ≤ 1000000) (hroom : c < l.length + 1)
    (hx : w.heap[vb]? = some (.cells x.row.toArray 25 (0, 0))) :
    Calls Try.prog 26 #[.slice (some ⟨g, 0, none⟩) l.length c, .int .i64 (i : Int), .slice (some ⟨vb, 0, none⟩) 1 1] w (InsPost base (.slice (some ⟨g, 0, none⟩) l.length c) (putAt i x l) w) := by
  have u63 := Try.underlying23
  have u3 := Try.underlying3
  obtain ⟨i0, hi0, hz0, hzs, hzb⟩ := info_parts infoOpM
  obtain ⟨hsz, hnc, hcm, hbg, -⟩ := own_sized hv
  have hcells : ∀ j, j < l.length * 11 → w.cell? ⟨g, j, none⟩ = (opCells l)[j]? := fun j hj => hv.cellAt j hj
  have hgl : g < w.heap.size := by obtain ⟨cur, h1, h2⟩ := hsz; exact heap_lt h1
  have hvl : vb < w.heap.size := heap_lt hx
  have hA := take_cells i l (by omega)
  have hD := drop_cells i l
  obtain ⟨G, hG⟩ : ∃ G, G = grownCap w (l.length + 1) c 25 := ⟨_, rfl⟩
  have hGn : l.length + 1 ≤ G := by rw [hG]; exact grownCap_ge w _ _ _
  have hG63 : G ≤ maxLen := by rw [hG]; exact grownCap_le_maxLen w (l.length + 1) c 25 (by unfold maxLen; omega)
  have hG64 : G ≤ 9223372036854775807 := by have := hG63; unfold maxLen at this; omega
  obtain ⟨Z, hZ⟩ : ∃ Z : Value, Z = .agg #[.int .i64 0, .int .i64 0, .int .i64 0, .int .i64 0, .int .i64 0, .int .i64 0, .int .i64 0, .bool false, .int .i64 0, .int .i64 0, .int .i64 0] := ⟨_, rfl⟩
  obtain ⟨ROW, hROW⟩ : ∃ ROW : Array Value, ROW = (opCells (l.take i)).toArray ++ Builtin.zeroCells Z.cells (l.length + 1 - i) ++ Builtin.zeroCells Z.cells (G - (l.length + 1)) := ⟨_, rfl⟩
  have hzl : Z.cells.size = 11 := by rw [hZ]; kernel_rfl
  have hRs : ROW.size = G * 11 := by
    rw [hROW]
    simp only [Builtin.zeroCells, Array.size_append, List.size_toArray, hA]
    simp [hzl]
    omega
  have hRt : ∀ j, j < i * 11 → ROW[j]? = (opCells l)[j]? := fun j hj => by
    rw [hROW, ← Array.getElem?_toList]
    simp only [Array.toList_append, List.append_assoc]
    rw [List.getElem?_append_left (by simp only [hA]; exact hj), split_cells i l, List.getElem?_append_left (by rw [hA]; exact hj)]
  have hold : (Builtin.firstCells i0.size i (.slice (some ⟨g, 0, none⟩) i c)).run Try.prog w.drew = .ok (opCells (l.take i)).toArray w.drew := by
    rw [hzs]
    exact run_firstCells_some w.drew 11 i ⟨g, 0, none⟩ i c (opCells (l.take i)) (by rw [hA]) (fun j v hj => by
      have hjl : j < i * 11 := by
        have := (List.getElem?_eq_some_iff.1 hj).1
        rwa [hA] at this
      rw [Addr.add_lit, Nat.zero_add]
      refine (hcells j (by omega)).trans ?_
      rw [split_cells i l, List.getElem?_append_left (by rw [hA]; exact hjl)]
      exact hj)
  have hik : i + (l.length + 1 - i) = l.length + 1 := by omega
  have hrz : ∀ ty, (Builtin.append_ #[23, 3] ty #[.slice (some ⟨g, 0, none⟩) i c, .int .i64 ((l.length : Int) + 1 - (i : Int))]).run Try.prog w =
      .ok (.slice (some ⟨w.heap.size, 0, none⟩) (l.length + 1) G) (w.drew.alloc (.cells ROW 25)) := fun ty => by
    have h := Lib.run_append_grow_zeros w 23 3 ty 25 i0 _ .i64 .i64 u63 u3 hi0 hz0 (some ⟨g, 0, none⟩) i c (opCells (l.take i)) hold (l.length + 1 - i) (by omega) (by omega) (by omega) (by omega) (by rw [hzb]; omega) (by rw [hzb, hik]; exact growslice_fits (by omega) (by omega))
    rw [hik] at h
    rw [show (l.length : Int) + 1 - (i : Int) = ((l.length + 1 - i : Nat) : Int) by omega, hROW, hG, hZ]
    exact h
  obtain ⟨W1, hW1⟩ : ∃ W1, W1 = w.drew.alloc (.cells ROW 25) := ⟨_, rfl⟩
  rw [← hW1] at hrz
  have hs1 : Sized W1 w.heap.size 25 (G * 11) := ⟨ROW, by rw [hW1]; exact heap_newAt w.drew _ rfl, hRs⟩
  have hc1 : ∀ j, j < i * 11 → W1.cell? ⟨w.heap.size, j, none⟩ = (opCells l)[j]? := fun j hj => by
    have : W1.heap[w.heap.size]? = some (.cells ROW 25 (0, 0)) := by rw [hW1]; exact heap_newAt w.drew _ rfl
    rw [heap_cell this]
    exact hRt j hj
  have gW : Grow w W1 := by rw [hW1]; exact Grow.trans (Grow.drew _) (Grow.alloc _ _)
  have hcpA : ∀ (W : World), (∀ x, W.cell? x = W1.cell? x) → (∀ x, W.frozen? x = W1.frozen? x) → ∀ ty dl dc, dl = l.length + 1 - i → (Builtin.copy_ #[23, 23] ty #[.slice (some ⟨w.heap.size, i * 11, none⟩) dl dc, .slice (some ⟨vb, 0, none⟩) 1 1]).run Try.prog W = .ok (goInt 1) (W.setCells w.heap.size (i * 11) x.row) := fun W hWc hWf ty dl dc h1 =>
    run_copy_cellsK W _ _ ty 25 w.heap.size (i * 11) dl dc ⟨vb, 0, none⟩ 1 1 11 1 x.row u63 infoSizeOp (by subst h1; simp only [Nat.min_def]; split <;> omega) rfl
      (fun j u hj => by rw [Addr.add_lit, Nat.zero_add, hWc, heap_cell (gW.heap hx)]; simpa using hj)
      (fun j hj => by rw [hWc]; rw [row_length] at hj; exact hs1.isSome _ (by omega)) (fun j hj => by rw [hWf]; exact hs1.free _) (row_one x)
  have hgN : g ≠ w.heap.size := by omega
  have hcpB : ∀ (W : World), (∀ y, W.cell? y = (W1.setCells w.heap.size (i * 11) x.row).cell? y) → (∀ y, W.frozen? y = (W1.setCells w.heap.size (i * 11) x.row).frozen? y) → ∀ ty dl dc sl sc, dl = l.length - i → sl = l.length - i → (Builtin.copy_ #[23, 23] ty #[.slice (some ⟨w.heap.size, (i + 1) * 11, none⟩) dl dc, .slice (some ⟨g, i * 11, none⟩) sl sc]).run Try.prog W = .ok (goInt ((l.length - i : Nat) : Int)) (W.setCells w.heap.size ((i + 1) * 11) (opCells (l.drop i))) := fun W hWc hWf ty dl dc sl sc h1 h2 =>
    run_copy_cellsK W _ _ ty 25 w.heap.size ((i + 1) * 11) dl dc ⟨g, i * 11, none⟩ sl sc 11 (l.length - i) (opCells (l.drop i)) u63 infoSizeOp (by subst h1 h2; simp only [Nat.min_def]; split <;> omega) hD
      (fun j u hj => by
        have hjl : j < (l.length - i) * 11 := by
          have := (List.getElem?_eq_some_iff.1 hj).1
          rwa [hD] at this
        rw [Addr.add_lit, hWc, World.cell?_setCells_out _ _ _ _ _ (fun h _ => absurd h hgN), gW.cells _ _ hgl]
        refine (hcells (i * 11 + j) (by omega)).trans ?_
        rw [split_cells i l, List.getElem?_append_right (by rw [hA]; omega), hA, show i * 11 + j - i * 11 = j by omega]
        exact hj)
      (fun j hj => by rw [hD] at hj; rw [hWc]; exact (Sized.sets _ _ _ _ hs1).isSome _ (by omega)) (fun j hj => by rw [hWf]; exact (Sized.sets _ _ _ _ hs1).free _) (opCells_one _)
  have HEND := hid (show ∀ W, (∀ y, W.cell? y = (W1.setCells w.heap.size (i * 11) x.row).cell? y) → Sized W w.heap.size 25 (G * 11) → (∀ p, Moved p (some g) w W) → ((W.setCells w.heap.size ((i + 1) * 11) (opCells (l.drop i))).ownsRow base 25 11 (.slice (some ⟨w.heap.size, 0, none⟩) (l.length + 1) G) (l.length + 1) (opCells (putAt i x l))) ∧ ∀ p, Moved p (some g) w (W.setCells w.heap.size ((i + 1) * 11) (opCells (l.drop i))) from by
    intro W hWc hWs hWm
    constructor
    · refine own_of_cells hbw (Sized.sets _ _ _ _ hWs) hGn hG63 (by rw [opCells_length, putAt_length i x l (by omega)]) ?_
      exact put_cells2 (W := W1) (e := 25) l x i (by omega) hs1 (by omega) hc1 hWc hWs
    · intro p
      exact Moved.setCells (.inr (.inr (Nat.le_refl _))) _ _ _ (hWm p))
  have HS2 := hid (Sized.sets w.heap.size x.row (i * 11) _ hs1)
  have HZ := hid (putAt_length i x l (by omega))
  subst hW1
  have hE1 : ∀ x, ((w.alloc (.cells ROW 25)).drew).cell? x = (w.drew.alloc (.cells ROW 25)).cell? x := fun x => rfl
  have hE2 : ∀ x, ((w.alloc (.cells ROW 25)).drew).frozen? x = (w.drew.alloc (.cells ROW 25)).frozen? x := fun x => rfl
  have hF1 : ∀ y, (((w.alloc (.cells ROW 25)).drew.setCells w.heap.size (i * 11) x.row).drew).cell? y = ((w.drew.alloc (.cells ROW 25)).setCells w.heap.size (i * 11) x.row).cell? y := fun y => by rw [drew_cellH, alloc_drewH]
  have hF2 : ∀ y, (((w.alloc (.cells ROW 25)).drew.setCells w.heap.size (i * 11) x.row).drew).frozen? y = ((w.drew.alloc (.cells ROW 25)).setCells w.heap.size (i * 11) x.row).frozen? y := fun y => by rw [drew_frozenH, alloc_drewH]
  clear hv hsz hcells hold hROW hG hRs hs1 gW hcm hbg hG63 hx hA hD hc1 hRt hzl hik
  generalize putAt i x l = z at *
  obtain ⟨n, hN⟩ : ∃ n, n = l.length := ⟨_, rfl⟩
  rw [← hN] at hi hl hroom hrz hcpA hcpB HEND HZ hGn hnc ⊢
  clear hN
  have hw1 : IntKind.i64.wrap ((i : Int) + 1) = (i : Int) + 1 := by rw [IntKind.wrap_i64]; omega
  have hb1 : (0 : Int) ≤ (i : Int) + 1 := by omega
  have hin : i ≤ n := by omega
  have htn : ((i : Int) + 1).toNat = i + 1 := by omega
  have hb2 : ¬ (G = i + 1) := by omega
  have hb3 : (i : Int) ≤ (n : Int) := by omega
  have hb4 : ¬ (c = i) := by omega
  have hb7 : ¬ (G = i) := by omega
  have hb5 : ¬ ((i : Int) = (n : Int)) := by omega
  have mixed : Try.prog.follows .mixedOrders = true := by kernel_rfl
  go_enter Try.func26, Try.ntmps26
  go_wp2_with (first
    | (at_builtin; refine Lib.wpList_append_run _ rfl _ _ _ _ rfl _ _ rfl rfl _ _ (hrz _) ?_)
    | (at_builtin; refine wpList_copy_runI _ rfl _ _ 23 23 rfl _ _ rfl rfl (hcpA _ hE1 hE2 _ _ _ (by omega)) ?_))
  go_region_law_o (refine step_copy_runI rfl _ _ 23 23 rfl (.slice (some ⟨w.heap.size, (i + 1) * 11, none⟩) (n - i) (G - (i + 1))) (.slice (some ⟨g, i * 11, none⟩) (n - i) (c - i)) (by simp [Act.eval, Act.put]) (by simp [Act.eval, Act.put]) (hcpB _ hF1 hF2 3 (n - i) (G - (i + 1)) (n - i) (c - i) rfl rfl) ?_)
  go_wp2
  go_ret
  have HE := HEND.out _ hF1 (by rw [alloc_drewH]; exact HS2.out.grow (Grow.drew _)) (fun p => (Moved.setCells (.inr (.inr (Nat.le_refl _))) _ _ _ (Moved.of_grow (Grow.trans (Grow.alloc _ _) (Grow.drew _)))).grow (Grow.drew _))
  refine ⟨.slice (some ⟨w.heap.size, 0, none⟩) (n + 1) G, rfl, ?_, HE.2, fun k hk => .inr (Nat.le_of_eq (Option.some.inj hk))⟩
  rw [HZ.out]
  exact HE.1
theorem Insert_c (l : List OpR) (x : OpR) (i : Nat) (v : Value) (vb : Nat) (w : World) (base : Nat) (hb : base ≤ w.heap.size) (hv : w.ownsRow base 25 11 v l.length (opCells l)) (hi : i ≤ l.length) (hl : l.length ≤ 1000000)
    (hx : w.heap[vb]? = some (.cells x.row.toArray 25 (0, 0))) (hne : ∀ k, v.ownBlock = some k → vb ≠ k) :
    Calls Try.prog 26 #[v, .int .i64 (i : Int), .slice (some ⟨vb, 0, none⟩) 1 1] w (InsPost base v (putAt i x l) w) := by
  by_cases he : i = l.length
  · subst he
    exact InsertEnd_c l x v w base vb hb hv hl hx
  · rcases hv.2 with ⟨-, h⟩ | ⟨g, c, cur, rfl, h2, hg, h4, h5, h6, h7⟩
    · omega
    · by_cases hroom : l.length + 1 ≤ c
      · exact InsertIn_c l x i g vb c w base hv (by omega) hl hroom hx (hne g rfl)
      · exact InsertNew_c l x i g vb c w base hb hv (by omega) hl (by omega) hx
end Go.Proofs.Ytljimlaalebmaaa
