/- What slices.Insert leaves of what is kept, ahead of all. -/
import Derived.Test.YtjccfodadiaokaaCFront
import Derived.Deep.AppendLies
namespace Go.Proofs.Ytjccfodadiaokaa
open Go.RowKit
set_option linter.unusedVariables false
set_option linter.unusedSimpArgs false
theorem heap_newAt (w : World) (o : Obj) {g : Nat} (h : g = w.heap.size) : (w.alloc o).heap[g]? = some o := by
  subst h
  exact heap_new w o
theorem Moved.of_grownBy {p : Nat} {row : Option Nat} {w w' : World} (h : w.grownBy w' row) : Moved p row w w' := ⟨h.os, h.tape, h.output, h.size, fun k hk _ hr => h.block k hk hr⟩
/-- Cells laid, then three ahead of them. -/
theorem lay_cells {W : World} {g : Nat} {e : TypeId} {N : Nat} (A R : List Value) (hR : R.length = 3) (hs : Sized W g e N) (hN : 3 + A.length ≤ N) :
    ∀ j, j < 3 + A.length → ((W.setCells g 3 A).setCells g 0 R).cell? ⟨g, j, none⟩ = (R ++ A)[j]? := by
  intro j hj
  have hs1 := Sized.sets (e := e) g A 3 W hs
  by_cases h3 : j < 3
  · have := World.cell?_setCells_in g R 0 (W.setCells g 3 A) (fun q hq => hs1.isSome _ (by rw [hR] at hq; omega)) j (by rw [hR]; exact h3)
    rw [Nat.zero_add] at this
    rw [this, List.getElem?_append_left (by rw [hR]; exact h3), List.getElem?_eq_getElem]
  · rw [World.cell?_setCells_out g _ _ _ _ (fun _ _ => .inr (by rw [hR]; show 0 + 3 ≤ j; omega))]
    rw [List.getElem?_append_right (by rw [hR]; omega), hR]
    have := World.cell?_setCells_in g A 3 W (fun q hq => hs.isSome _ (by omega)) (j - 3) (by omega)
    rw [show 3 + (j - 3) = j by omega] at this
    rw [this, List.getElem?_eq_getElem]
/-- The other way about. -/
theorem lay_cells2 {W W' : World} {g : Nat} {e : TypeId} {N : Nat} (A R : List Value) (hR : R.length = 3) (hs : Sized W g e N) (hN : 3 + A.length ≤ N) (hW : ∀ x, W'.cell? x = (W.setCells g 0 R).cell? x) (hs' : Sized W' g e N) :
    ∀ j, j < 3 + A.length → (W'.setCells g 3 A).cell? ⟨g, j, none⟩ = (R ++ A)[j]? := by
  intro j hj
  by_cases h3 : j < 3
  · rw [World.cell?_setCells_out g _ _ _ _ (fun _ _ => .inl (by show j < 3; exact h3)), hW]
    have := World.cell?_setCells_in g R 0 W (fun q hq => hs.isSome _ (by rw [hR] at hq; omega)) j (by rw [hR]; exact h3)
    rw [Nat.zero_add] at this
    rw [this, List.getElem?_append_left (by rw [hR]; exact h3), List.getElem?_eq_getElem]
  · rw [List.getElem?_append_right (by rw [hR]; omega), hR]
    have := World.cell?_setCells_in g A 3 W' (fun q hq => hs'.isSome _ (by omega)) (j - 3) (by omega)
    rw [show 3 + (j - 3) = j by omega] at this
    rw [this, List.getElem?_eq_getElem]
/-- What inserting leaves. -/
def InsPost (base : Nat) (v : Value) (l : List CItem) (w : World) (e : Ending) (w' : World) : Prop :=
  ∃ v', e = .returned v' ∧ w'.ownsRow base 71 3 v' l.length (itemCells l) ∧ (∀ p, Moved p v.ownBlock w w') ∧ ∀ k, v'.ownBlock = some k → v.ownBlock = some k ∨ w.heap.size ≤ k
theorem infoItemM : Info Try.prog 71 (.agg #[.int .i64 0, .string ByteArray.empty, .int .i64 0]) 3 32 := by unfold Info; kernel_rfl
theorem sizeItem (w : World) : (Go.sizeOf 71).run Try.prog w = .ok 3 w := by
  obtain ⟨i0, hi, -, -, -⟩ := info_parts infoItemM
  rw [run_sizeOf w hi]
  have : Try.prog.cellsOf 71 = 3 := by kernel_rfl
  rw [this]
set_option maxRecDepth 100000 in
set_option maxHeartbeats 4000000 in
/-- Among none. -/
theorem Insert0_c (x : CItem) (v : Value) (w : World) (base vb : Nat) (hb : base ≤ w.heap.size) (hv : w.ownsRow base 71 3 v 0 (itemCells []))
    (hx : w.heap[vb]? = some (.cells x.row.toArray 71 (0, 0))) :
    Calls Try.prog 28 #[v, .int .i64 0, .slice (some ⟨vb, 0, none⟩) 1 1] w (InsPost base v [x] w) := by
  have HV := hid hv
  obtain ⟨i0, hi, hz0, hz1, hz2⟩ := info_parts infoItemM
  have HX := hid (World.news_of_block hx)
  clear hx
  have u63 := Try.underlying63
  have hform : ∃ A c, v = .slice A 0 c := by
    rcases hv.2 with ⟨h, _⟩ | ⟨g, cap, cur, h, _⟩
    · exact ⟨none, 0, h⟩
    · exact ⟨_, cap, h⟩
  obtain ⟨A, c, rfl⟩ := hform
  clear hv
  go_enter Try.func28, Try.ntmps28
  go_wp2_with (at_builtin; refine wpList_append_lies _ rfl _ _ 63 rfl base 71 i0 (.agg #[.int .i64 0, .string ByteArray.empty, .int .i64 0]) 3 32 u63 hi hz0 hz1 hz2 rfl (by decide) _ 0 (itemCells []) rfl HV.out ⟨vb, 0, none⟩ 1 1 x.row rfl rfl HX.out (by intro u hu; exact itemCells_one [x] u (by simpa [itemCells] using hu)) (by omega) (by unfold maxLen; omega) (by omega) hb _ rfl ?_; intro g cap w' ho hgr hat hlt)
  all_goals go_ret
  all_goals exact ⟨_, rfl, by simpa [itemCells] using ho, fun p => Moved.of_grownBy hgr, fun k hk => by
    rcases hat with h | h
    · exact .inl (h.trans hk)
    · right
      have e : g = k := Option.some.inj hk
      omega⟩
set_option maxRecDepth 100000 in
set_option maxHeartbeats 4000000 in
/-- In place. -/
theorem InsertIn_c (l : List CItem) (x : CItem) (g vb c : Nat) (w : World) (base : Nat) (hv : w.ownsRow base 71 3 (.slice (some ⟨g, 0, none⟩) l.length c) l.length (itemCells l)) (h0 : 0 < l.length) (hl : l.length ≤ 1000000) (hroom : l.length + 1 ≤ c)
    (hx : w.heap[vb]? = some (.cells x.row.toArray 71 (0, 0))) (hne : vb ≠ g) :
    Calls Try.prog 28 #[.slice (some ⟨g, 0, none⟩) l.length c, .int .i64 0, .slice (some ⟨vb, 0, none⟩) 1 1] w (InsPost base (.slice (some ⟨g, 0, none⟩) l.length c) (x :: l) w) := by
  have u63 := Try.underlying63
  obtain ⟨hsz, -, hcm, hbg, -⟩ := own_sized hv
  have hcm2 := hcm
  unfold maxLen at hcm2
  have hcells : ∀ j, j < l.length * 3 → w.cell? ⟨g, j, none⟩ = (itemCells l)[j]? := fun j hj => hv.cellAt j hj
  have hgl : g < w.heap.size := by obtain ⟨cur, h1, h2⟩ := hsz; exact heap_lt h1
  have hvl : vb < w.heap.size := heap_lt hx
  have hsa : w.shape? vb = some (71, 3) := by unfold World.shape?; rw [hx]; rfl
  have hsb : w.shape? g = some (71, c * 3) := by obtain ⟨cur, h1, h2⟩ := hsz; unfold World.shape?; rw [h1]; simp [h2]
  have hfa : ∀ k, w.frozen? ⟨vb, k, none⟩ = false := fun k => heap_frozen hx k (by omega)
  have hA : (itemCells l).length = l.length * 3 := itemCells_length l
  have hov : ∀ lb cb, (callFunc 42 #[.slice (some ⟨vb, 0, none⟩) 1 1, .slice (some ⟨g, 3, none⟩) lb cb]).run Try.prog w = .ok (.value (.bool false)) w := fun lb cb => by
    rw [run_callFunc_extern Try.func42 (by kernel_rfl) (by kernel_rfl) (by kernel_rfl) (e := Extern.SlicesOverlaps.overlaps #[63, 63] #[4]) (by kernel_rfl),
      Lib.run_overlaps_apart w 63 4 71 u63 3 sizeItem ⟨vb, 0, none⟩ ⟨g, 3, none⟩ 1 1 lb cb hne 71 71 3 (c * 3) hsa hsb (by omega) (hfa 0) (hfa 3)]
    rfl
  have hcp1 : ∀ ty dl dc sl sc, dl = l.length → sl = l.length + 1 → (Builtin.copy_ #[63, 63] ty #[.slice (some ⟨g, 3, none⟩) dl dc, .slice (some ⟨g, 0, none⟩) sl sc]).run Try.prog w.drew = .ok (goInt l.length) (w.drew.setCells g 3 (itemCells l)) := fun ty dl dc sl sc h1 h2 =>
    run_copy_cellsK w.drew _ _ ty 71 g 3 dl dc ⟨g, 0, none⟩ sl sc 3 l.length (itemCells l) u63 infoItem (by subst h1 h2; simp only [Nat.min_def]; split <;> omega) hA
      (fun j u hj => by
        have hjl : j < l.length * 3 := by
          have := (List.getElem?_eq_some_iff.1 hj).1
          rwa [hA] at this
        rw [Addr.add_lit, Nat.zero_add]
        exact (hcells j hjl).trans hj)
      (fun j hj => by rw [hA] at hj; exact hsz.isSome _ (by omega)) (fun j hj => hsz.free _) (itemCells_one _)
  obtain ⟨W1, hW1⟩ : ∃ W1, W1 = w.drew.setCells g 3 (itemCells l) := ⟨_, rfl⟩
  have hs1 : Sized W1 g 71 (c * 3) := by rw [hW1]; exact Sized.sets g _ 3 _ (hsz.grow (Grow.drew _))
  have hx1 : ∀ j, W1.cell? ⟨vb, j, none⟩ = (x.row.toArray)[j]? := fun j => by
    rw [hW1, World.cell?_setCells_out g _ _ _ _ (fun h _ => absurd h hne)]
    exact heap_cell (w := w.drew) hx j
  have hcp2 : ∀ (W : World), (∀ x, W.cell? x = W1.cell? x) → (∀ x, W.frozen? x = W1.frozen? x) → ∀ ty dl dc, dl = l.length + 1 → (Builtin.copy_ #[63, 63] ty #[.slice (some ⟨g, 0, none⟩) dl dc, .slice (some ⟨vb, 0, none⟩) 1 1]).run Try.prog W = .ok (goInt 1) (W.setCells g 0 x.row) := fun W hWc hWf ty dl dc h1 =>
    run_copy_cellsK W _ _ ty 71 g 0 dl dc ⟨vb, 0, none⟩ 1 1 3 1 x.row u63 infoItem (by subst h1; simp only [Nat.min_def]; split <;> omega) rfl
      (fun j u hj => by rw [Addr.add_lit, Nat.zero_add, hWc, hx1]; simpa using hj)
      (fun j hj => by rw [hWc]; rw [row_length] at hj; exact hs1.isSome _ (by omega)) (fun j hj => by rw [hWf]; exact hs1.free _) (by intro u hu; exact itemCells_one [x] u (by simpa [itemCells] using hu))
  have HEND := hid (show ((W1.setCells g 0 x.row).ownsRow base 71 3 (.slice (some ⟨g, 0, none⟩) (l.length + 1) c) (l.length + 1) (itemCells (x :: l))) ∧ ∀ p, Moved p (some g) w (W1.setCells g 0 x.row) from by
    constructor
    · refine own_of_cells hbg (Sized.sets g _ 0 _ hs1) hroom hcm (by rw [itemCells_length]; rfl) ?_
      rw [itemCells_cons]
      intro j hj
      rw [hW1]
      exact lay_cells (e := 71) (itemCells l) x.row rfl (hsz.grow (Grow.drew _)) (by rw [hA]; omega) j (by rw [hA]; omega)
    · intro p
      rw [hW1]
      exact Moved.setCells (.inr (.inl rfl)) _ 0 _ (Moved.setCells (.inr (.inl rfl)) _ 3 _ (Moved.of_grow (Grow.drew _))))
  rw [← hW1] at hcp1
  have HW1 := hid hW1
  clear hv hsz hcm hbg hcells hsa hsb hfa hA hs1 hx1 hW1 hx
  obtain ⟨n, hN⟩ : ∃ n, n = l.length := ⟨_, rfl⟩
  have HN := hid hN
  rw [← hN] at h0 hl hroom hcp1 hcp2 HEND ⊢
  clear hN
  have hw1 : IntKind.i64.wrap ((n : Int) + 1) = (n : Int) + 1 := by rw [IntKind.wrap_i64]; omega
  have hw2 : IntKind.i64.wrap (0 + 1) = 1 := by decide
  have hw3 : IntKind.i64.wrap 1 = 1 := by decide
  have htn : ((n : Int) + 1).toNat = n + 1 := by omega
  have hb1 : (0 : Int) ≤ (n : Int) + 1 := by omega
  have hb2 : ¬ (c = 1) := by omega
  have hb3 : (1 : Int) ≤ (n : Int) + 1 := by omega
  have hb4 : (n : Int) + 1 ≤ (c : Int) := by omega
  have hb5 : ¬ (0 = n) := by omega
  have hb6 : ¬ ((0 : Int) = (n : Int)) := by omega
  have hb7 : ¬ (n = 0) := by omega
  have mixed : Try.prog.follows .mixedOrders = true := by kernel_rfl
  go_enter Try.func28, Try.ntmps28
  go_wp2_with (simp only [hov])
  go_region_law_o (refine step_copy_runI rfl _ _ 63 63 rfl (.slice (some ⟨g, 3, none⟩) n (c - 1)) (.slice (some ⟨g, 0, none⟩) (n + 1) c) (by simp [Act.eval, Act.put]) (by simp [Act.eval, Act.put]) (hcp1 3 n (c - 1) (n + 1) c rfl rfl) ?_)
  go_wp2_with (at_builtin; refine wpList_copy_runI _ rfl _ _ 63 63 rfl _ _ rfl rfl (hcp2 _ (fun _ => rfl) (fun _ => rfl) _ _ _ (by omega)) ?_)
  go_ret
  refine ⟨.slice (some ⟨g, 0, none⟩) (n + 1) c, rfl, ?_, HEND.out.2, fun k hk => .inl hk⟩
  rw [List.length_cons, ← HN.out]
  exact HEND.out.1
set_option maxRecDepth 100000 in
set_option maxHeartbeats 4000000 in
/-- In a new row. -/
theorem InsertNew_c (l : List CItem) (x : CItem) (g vb c : Nat) (w : World) (base : Nat) (hbw : base ≤ w.heap.size) (hv : w.ownsRow base 71 3 (.slice (some ⟨g, 0, none⟩) l.length c) l.length (itemCells l)) (h0 : 0 < l.length) (hl : l.length ≤ 1000000) (hroom : c < l.length + 1)
    (hx : w.heap[vb]? = some (.cells x.row.toArray 71 (0, 0))) :
    Calls Try.prog 28 #[.slice (some ⟨g, 0, none⟩) l.length c, .int .i64 0, .slice (some ⟨vb, 0, none⟩) 1 1] w (InsPost base (.slice (some ⟨g, 0, none⟩) l.length c) (x :: l) w) := by
  have u63 := Try.underlying63
  have u3 := Try.underlying3
  obtain ⟨i0, hi0, hz0, hzs, hzb⟩ := info_parts infoItemM
  obtain ⟨hsz, hnc, hcm, hbg, -⟩ := own_sized hv
  have hcells : ∀ j, j < l.length * 3 → w.cell? ⟨g, j, none⟩ = (itemCells l)[j]? := fun j hj => hv.cellAt j hj
  have hgl : g < w.heap.size := by obtain ⟨cur, h1, h2⟩ := hsz; exact heap_lt h1
  have hvl : vb < w.heap.size := heap_lt hx
  have hA : (itemCells l).length = l.length * 3 := itemCells_length l
  obtain ⟨G, hG⟩ : ∃ G, G = grownCap w (l.length + 1) c 71 := ⟨_, rfl⟩
  have hGn : l.length + 1 ≤ G := by rw [hG]; exact grownCap_ge w _ _ _
  have hG63 : G ≤ maxLen := by rw [hG]; exact grownCap_le_maxLen w (l.length + 1) c 71 (by unfold maxLen; omega)
  have hG64 : G ≤ 9223372036854775807 := by have := hG63; unfold maxLen at this; omega
  obtain ⟨ROW, hROW⟩ : ∃ ROW : Array Value, ROW = #[] ++ Builtin.zeroCells (Value.agg #[.int .i64 0, .string ByteArray.empty, .int .i64 0]).cells (l.length + 1) ++ Builtin.zeroCells (Value.agg #[.int .i64 0, .string ByteArray.empty, .int .i64 0]).cells (G - (l.length + 1)) := ⟨_, rfl⟩
  have hzl : (Value.agg #[.int .i64 0, .string ByteArray.empty, .int .i64 0]).cells.size = 3 := by kernel_rfl
  have hRs : ROW.size = G * 3 := by
    rw [hROW]
    simp only [Builtin.zeroCells, Array.size_append, Array.size_empty]
    simp [hzl]
    omega
  have hold : (Builtin.firstCells i0.size 0 (.slice (some ⟨g, 0, none⟩) 0 c)).run Try.prog w.drew = .ok ([] : List Value).toArray w.drew := by
    rw [hzs]
    exact run_firstCells_some w.drew 3 0 ⟨g, 0, none⟩ 0 c [] rfl (fun j v hj => by simp at hj)
  have hrz : ∀ ty, (Builtin.append_ #[63, 3] ty #[.slice (some ⟨g, 0, none⟩) 0 c, .int .i64 ((l.length : Int) + 1)]).run Try.prog w =
      .ok (.slice (some ⟨w.heap.size, 0, none⟩) (l.length + 1) G) (w.drew.alloc (.cells ROW 71)) := fun ty => by
    have h := Lib.run_append_grow_zeros w 63 3 ty 71 i0 _ .i64 .i64 u63 u3 hi0 hz0 (some ⟨g, 0, none⟩) 0 c [] hold (l.length + 1) (by omega) (by omega) (by omega) (by omega) (by rw [hzb]; omega) (by rw [hzb]; exact growslice_fits (by omega) (by omega))
    rw [Nat.zero_add] at h
    rw [show (l.length : Int) + 1 = ((l.length + 1 : Nat) : Int) by omega, hROW, hG]
    exact h
  obtain ⟨W1, hW1⟩ : ∃ W1, W1 = w.drew.alloc (.cells ROW 71) := ⟨_, rfl⟩
  rw [← hW1] at hrz
  have hs1 : Sized W1 w.heap.size 71 (G * 3) := ⟨ROW, by rw [hW1]; exact heap_newAt w.drew _ rfl, hRs⟩
  have gW : Grow w W1 := by rw [hW1]; exact Grow.trans (Grow.drew _) (Grow.alloc _ _)
  have hcpA : ∀ (W : World), (∀ x, W.cell? x = W1.cell? x) → (∀ x, W.frozen? x = W1.frozen? x) → ∀ ty dl dc, dl = l.length + 1 → (Builtin.copy_ #[63, 63] ty #[.slice (some ⟨w.heap.size, 0, none⟩) dl dc, .slice (some ⟨vb, 0, none⟩) 1 1]).run Try.prog W = .ok (goInt 1) (W.setCells w.heap.size 0 x.row) := fun W hWc hWf ty dl dc h1 =>
    run_copy_cellsK W _ _ ty 71 w.heap.size 0 dl dc ⟨vb, 0, none⟩ 1 1 3 1 x.row u63 infoItem (by subst h1; simp only [Nat.min_def]; split <;> omega) rfl
      (fun j u hj => by rw [Addr.add_lit, Nat.zero_add, hWc, heap_cell (gW.heap hx)]; simpa using hj)
      (fun j hj => by rw [hWc]; rw [row_length] at hj; exact hs1.isSome _ (by omega)) (fun j hj => by rw [hWf]; exact hs1.free _) (by intro u hu; exact itemCells_one [x] u (by simpa [itemCells] using hu))
  have hgN : g ≠ w.heap.size := by omega
  have hcpB : ∀ (W : World), (∀ y, W.cell? y = (W1.setCells w.heap.size 0 x.row).cell? y) → (∀ y, W.frozen? y = (W1.setCells w.heap.size 0 x.row).frozen? y) → ∀ ty dl dc sl sc, dl = l.length → sl = l.length → (Builtin.copy_ #[63, 63] ty #[.slice (some ⟨w.heap.size, 3, none⟩) dl dc, .slice (some ⟨g, 0, none⟩) sl sc]).run Try.prog W = .ok (goInt l.length) (W.setCells w.heap.size 3 (itemCells l)) := fun W hWc hWf ty dl dc sl sc h1 h2 =>
    run_copy_cellsK W _ _ ty 71 w.heap.size 3 dl dc ⟨g, 0, none⟩ sl sc 3 l.length (itemCells l) u63 infoItem (by subst h1 h2; simp only [Nat.min_def]; split <;> omega) hA
      (fun j u hj => by
        have hjl : j < l.length * 3 := by
          have := (List.getElem?_eq_some_iff.1 hj).1
          rwa [hA] at this
        rw [Addr.add_lit, Nat.zero_add, hWc, World.cell?_setCells_out _ _ _ _ _ (fun h _ => absurd h hgN), gW.cells _ _ hgl]
        exact (hcells j hjl).trans hj)
      (fun j hj => by rw [hA] at hj; rw [hWc]; exact (Sized.sets _ _ 0 _ hs1).isSome _ (by omega)) (fun j hj => by rw [hWf]; exact (Sized.sets _ _ 0 _ hs1).free _) (itemCells_one _)
  have HEND := hid (show ∀ W, (∀ y, W.cell? y = (W1.setCells w.heap.size 0 x.row).cell? y) → Sized W w.heap.size 71 (G * 3) → (∀ p, Moved p (some g) w W) → ((W.setCells w.heap.size 3 (itemCells l)).ownsRow base 71 3 (.slice (some ⟨w.heap.size, 0, none⟩) (l.length + 1) G) (l.length + 1) (itemCells (x :: l))) ∧ ∀ p, Moved p (some g) w (W.setCells w.heap.size 3 (itemCells l)) from fun W hWc hWs hWm => by
    constructor
    · refine own_of_cells hbw (Sized.sets _ _ 3 _ hWs) hGn hG63 (by rw [itemCells_length]; rfl) ?_
      rw [itemCells_cons]
      intro j hj
      exact lay_cells2 (W := W1) (e := 71) (itemCells l) x.row rfl hs1 (by rw [hA]; omega) hWc hWs j (by rw [hA]; omega)
    · intro p
      exact Moved.setCells (.inr (.inr (Nat.le_refl _))) _ 3 _ (hWm p))
  have HS2 := hid (Sized.sets w.heap.size x.row 0 _ hs1)
  subst hW1
  have hE1 : ∀ x, ((w.alloc (.cells ROW 71)).drew).cell? x = (w.drew.alloc (.cells ROW 71)).cell? x := fun x => rfl
  have hE2 : ∀ x, ((w.alloc (.cells ROW 71)).drew).frozen? x = (w.drew.alloc (.cells ROW 71)).frozen? x := fun x => rfl
  have hF1 : ∀ y, (((w.alloc (.cells ROW 71)).drew.setCells w.heap.size 0 x.row).drew).cell? y = ((w.drew.alloc (.cells ROW 71)).setCells w.heap.size 0 x.row).cell? y := fun x => rfl
  have hF2 : ∀ y, (((w.alloc (.cells ROW 71)).drew.setCells w.heap.size 0 x.row).drew).frozen? y = ((w.drew.alloc (.cells ROW 71)).setCells w.heap.size 0 x.row).frozen? y := fun x => rfl
  clear hv hsz hcells hold hROW hG hRs hs1 gW hcm hbg hG63 hx hA
  obtain ⟨n, hN⟩ : ∃ n, n = l.length := ⟨_, rfl⟩
  have HN := hid hN
  rw [← hN] at h0 hl hroom hrz hcpA hcpB HEND hGn hnc ⊢
  clear hN
  have hw1 : IntKind.i64.wrap ((n : Int) + 1) = (n : Int) + 1 := by rw [IntKind.wrap_i64]; omega
  have hw2 : IntKind.i64.wrap (0 + 1) = 1 := by decide
  have hw3 : IntKind.i64.wrap 1 = 1 := by decide
  have htn : ((n : Int) + 1).toNat = n + 1 := by omega
  have hb1 : (0 : Int) ≤ (n : Int) + 1 := by omega
  have hb2 : ¬ (G = 1) := by omega
  have hb3 : (1 : Int) ≤ (n : Int) + 1 := by omega
  have hb5 : ¬ (0 = n) := by omega
  have hb6 : ¬ ((0 : Int) = (n : Int)) := by omega
  have hb7 : ¬ (n = 0) := by omega
  have mixed : Try.prog.follows .mixedOrders = true := by kernel_rfl
  go_enter Try.func28, Try.ntmps28
  go_wp2_with (first
    | (at_builtin; refine Lib.wpList_append_run _ rfl _ _ _ _ rfl _ _ rfl rfl _ _ (hrz _) ?_)
    | (at_builtin; refine wpList_copy_runI _ rfl _ _ 63 63 rfl _ _ rfl rfl (hcpA _ hE1 hE2 _ _ _ (by omega)) ?_))
  go_region_law_o (refine step_copy_runI rfl _ _ 63 63 rfl (.slice (some ⟨w.heap.size, 3, none⟩) n (G - 1)) (.slice (some ⟨g, 0, none⟩) n c) (by simp [Act.eval, Act.put]) (by simp [Act.eval, Act.put]) (hcpB _ hF1 hF2 3 n (G - 1) n c rfl rfl) ?_)
  go_wp2
  go_ret
  have HE := HEND.out _ hF1 HS2.out (fun p => (Moved.setCells (.inr (.inr (Nat.le_refl _))) _ 0 _ (Moved.of_grow (Grow.trans (Grow.alloc _ _) (Grow.drew _)))).grow (Grow.drew _))
  refine ⟨.slice (some ⟨w.heap.size, 0, none⟩) (n + 1) G, rfl, ?_, HE.2, fun k hk => .inr (Nat.le_of_eq (Option.some.inj hk))⟩
  rw [List.length_cons, ← HN.out]
  exact HE.1
theorem Insert_c (l : List CItem) (x : CItem) (v : Value) (vb : Nat) (w : World) (base : Nat) (hb : base ≤ w.heap.size) (hv : w.ownsRow base 71 3 v l.length (itemCells l)) (hl : l.length ≤ 1000000)
    (hx : w.heap[vb]? = some (.cells x.row.toArray 71 (0, 0))) (hne : ∀ k, v.ownBlock = some k → vb ≠ k) :
    Calls Try.prog 28 #[v, .int .i64 0, .slice (some ⟨vb, 0, none⟩) 1 1] w (InsPost base v (x :: l) w) := by
  cases l with
  | nil => exact Insert0_c x v w base vb hb hv hx
  | cons y l =>
    rcases hv.2 with ⟨-, h⟩ | ⟨g, c, cur, rfl, h2, hg, h4, h5, h6, h7⟩
    · simp at h
    · by_cases hroom : (y :: l).length + 1 ≤ c
      · exact InsertIn_c (y :: l) x g vb c w base hv (by simp) hl hroom hx (hne g rfl)
      · exact InsertNew_c (y :: l) x g vb c w base hb hv (by simp) hl (by omega) hx
end Go.Proofs.Ytjccfodadiaokaa
