/- What is put ahead of all others. -/
import Derived.Test.YtjccfodadiaokaaCSPlace
import Derived.Test.YtjccfodadiaokaaCSPure
import Derived.Shelf.Spec.SlicesInsertGrow
import Derived.Deep.RegionLaw
import Derived.Deep.RegionHeld3
namespace Go.Proofs.Ytjccfodadiaokaa.Str
open Go.RowKit
set_option linter.unusedVariables false
set_option linter.unusedSimpArgs false
theorem split_at (i : Nat) (l : List CItem) (hi : i < l.length) : l = l.take i ++ ([l[i]] ++ l.drop (i + 1)) := by
  rw [List.singleton_append, List.getElem_cons_drop]; exact (List.take_append_drop i l).symm
theorem frontL_eq (i : Nat) (l : List CItem) (hi : i < l.length) : frontL i l = [l[i]] ++ (l.take i ++ l.drop (i + 1)) := by
  have e : (l.drop i).take 1 = [l[i]] := by rw [List.drop_eq_getElem_cons hi]; rfl
  unfold frontL
  rw [e, List.append_assoc]
theorem frontL_length (i : Nat) (l : List CItem) (hi : i < l.length) : (frontL i l).length = l.length := by
  rw [frontL_eq i l hi]
  simp
  omega
theorem row_length (x : CItem) : x.row.length = 3 := rfl
theorem cells_one (x : CItem) : itemCells [x] = x.row := by simp [itemCells]
/-- The cells behind the putting ahead. -/
theorem front_cells {w : World} {g : Nat} {e : TypeId} {N : Nat} (l : List CItem) (i : Nat) (hi : i < l.length) (hs : Sized w g e N) (hN : l.length * 3 ≤ N) (hc : ∀ j, j < l.length * 3 → w.cell? ⟨g, j, none⟩ = (itemCells l)[j]?) :
    ∀ j, j < l.length * 3 → ((w.setCells g 3 (itemCells (l.take i))).setCells g 0 (l[i]).row).cell? ⟨g, j, none⟩ = (itemCells (frontL i l))[j]? := by
  intro j hj
  have hA : (itemCells (l.take i)).length = i * 3 := by rw [itemCells_length, List.length_take]; rw [Nat.min_eq_left (by omega)]
  have hs1 := Sized.sets (e := e) g (itemCells (l.take i)) 3 w hs
  have e1 : itemCells (frontL i l) = (l[i]).row ++ (itemCells (l.take i) ++ itemCells (l.drop (i + 1))) := by rw [frontL_eq i l hi, itemCells_append, itemCells_append, cells_one]
  have e0 : itemCells l = itemCells (l.take i) ++ ((l[i]).row ++ itemCells (l.drop (i + 1))) := by
    conv => lhs; rw [split_at i l hi]
    rw [itemCells_append, itemCells_append, cells_one]
  by_cases h3 : j < 3
  · have := World.cell?_setCells_in g (l[i]).row 0 (w.setCells g 3 (itemCells (l.take i))) (fun q hq => hs1.isSome _ (by rw [row_length] at hq; omega)) j (by rw [row_length]; exact h3)
    rw [Nat.zero_add] at this
    rw [this, e1, List.getElem?_append_left (by rw [row_length]; exact h3), List.getElem?_eq_getElem]
  · rw [World.cell?_setCells_out g _ _ _ _ (fun _ _ => .inr (by rw [row_length]; show 0 + 3 ≤ j; omega))]
    rw [e1, List.getElem?_append_right (by rw [row_length]; omega), row_length]
    by_cases hlt : j < 3 + i * 3
    · have := World.cell?_setCells_in g (itemCells (l.take i)) 3 w (fun q hq => hs.isSome _ (by rw [hA] at hq; omega)) (j - 3) (by rw [hA]; omega)
      rw [show 3 + (j - 3) = j by omega] at this
      rw [this, List.getElem?_append_left (by rw [hA]; omega), List.getElem?_eq_getElem]
    · rw [World.cell?_setCells_out g _ _ _ _ (fun _ _ => .inr (by rw [hA]; show 3 + i * 3 ≤ j; omega)), hc j hj, e0]
      have a1 : (itemCells (l.take i) ++ ((l[i]).row ++ itemCells (l.drop (i + 1))))[j]? = (itemCells (l.drop (i + 1)))[j - i * 3 - 3]? := by
        rw [List.getElem?_append_right (by rw [hA]; omega), hA, List.getElem?_append_right (by rw [row_length]; omega), row_length]
      have a2 : (itemCells (l.take i) ++ itemCells (l.drop (i + 1)))[j - 3]? = (itemCells (l.drop (i + 1)))[j - 3 - i * 3]? := by
        rw [List.getElem?_append_right (by rw [hA]; omega), hA]
      rw [a1, a2]
      congr 1
      omega
theorem heap_setCells_out {g k : Nat} : ∀ (vs : List Value) (o : Nat) (w : World), k ≠ g → (w.setCells g o vs).heap[k]? = w.heap[k]?
  | [], _, _, _ => rfl
  | v :: r, o, w, h => by
    rw [World.setCells, heap_setCells_out r (o + 1) _ h, Below.heap_setCell _ _ _ _ h]
theorem run_copy_noneK {P : Program} (w : World) (dT sT ty elem : TypeId) (d a : Option Addr) (dLen dCap sLen sCap size : Nat) (hu : P.underlying dT = some (.slice elem)) (hs : (P.info? elem).map (·.size) = some size) (hn : Nat.min sLen dLen = 0) :
    (Builtin.copy_ #[dT, sT] ty #[.slice d dLen dCap, .slice a sLen sCap]).run P w = .ok (goInt 0) w := by
  cases hq : P.info? elem with
  | none => simp [hq] at hs
  | some i =>
    cases d <;> cases a <;> simp [Builtin.copy_, run_underlying hu, Builtin.lenOf, Builtin.firstCells, sizeOf, typeInfo, hq, hn, loadCells, loadCellsFrom, storeCells]
theorem infoItem : (Try.prog.info? 79).map (·.size) = some 3 := by kernel_rfl
set_option maxRecDepth 100000 in
set_option maxHeartbeats 4000000 in
theorem front_c (p : Nat) (most : Int) (v : Value) (l : List CItem) (i : Nat) (w : World) (hc : CacheAt w p most v l) (hl : l.length ≤ 1000000) (hi : i < l.length) (h0 : 0 < i) :
    Calls Try.prog 30 #[.pointer (some ⟨p, 0, none⟩), .int .i64 (i : Int)] w fun e w' => (∃ u, e = .returned u) ∧ CacheAt w' p most v (frontL i l) ∧ Moved p v.ownBlock w w' := by
  obtain ⟨A, c, rfl, hlc, hcells⟩ := hc.form
  obtain ⟨g, rfl, hpg, hsz, hcm, hat⟩ := hcells (by omega)
  have hx := hat i hi
  have hrow := hc.2
  have hp := hc.1
  have hcells0 : ∀ j, j < l.length * 3 → w.cell? ⟨g, j, none⟩ = (itemCells l)[j]? := fun j hj => hrow.cellAt j hj
  have c1 : w.cell? ⟨p, 1, none⟩ = some (.slice (some ⟨g, 0, none⟩) l.length c) := by rw [heap_cell hp]; rfl
  have hplt := heap_lt hp
  have hglt : g < w.heap.size := by have := hsz; obtain ⟨cur, h1, h2⟩ := this; exact heap_lt h1
  obtain ⟨x, hxe⟩ : ∃ x, l[i] = x := ⟨_, rfl⟩
  rw [hxe] at hx
  have u63 := Try.underlying74
  have hA : (itemCells (l.take i)).length = i * 3 := by rw [itemCells_length, List.length_take]; rw [Nat.min_eq_left (by omega)]
  have hcp : ∀ (W : World), Grow w W → ∀ ty dl dc sl sc, dl = i → sl = i → (Builtin.copy_ #[74, 74] ty #[.slice (some ⟨g, 3, none⟩) dl dc, .slice (some ⟨g, 0, none⟩) sl sc]).run Try.prog W = .ok (goInt i) (W.setCells g 3 (itemCells (l.take i))) := fun W hW ty dl dc sl sc h1 h2 =>
    run_copy_cellsK W _ _ ty 79 g 3 dl dc ⟨g, 0, none⟩ sl sc 3 i (itemCells (l.take i)) u63 infoItem (by subst h1 h2; simp) hA
      (fun j u hj => by
        have hjl : j < i * 3 := by
          have := (List.getElem?_eq_some_iff.1 hj).1
          rwa [hA] at this
        rw [Addr.add_lit, Nat.zero_add, hW.cells _ _ hglt, hcells0 j (by omega), ← hj]
        conv => lhs; rw [split_at i l hi]
        rw [itemCells_append, List.getElem?_append_left (by rw [hA]; exact hjl)])
      (fun j hj => by rw [hA] at hj; rw [hW.cells _ _ hglt]; exact hsz.isSome _ (by omega)) (fun j hj => by rw [hW.marks _ _ hglt]; exact hsz.free _) (itemCells_one _)
  have HCP := hid hcp
  have HF := hid (fun (W : World) (hs : Sized W g 79 (c * 3)) (hcl : ∀ j, j < l.length * 3 → W.cell? ⟨g, j, none⟩ = (itemCells l)[j]?) => front_cells l i hi hs (by omega) hcl)
  have HS := hid hsz
  have HC0 := hid hcells0
  have HP := hid hp
  have HXE := hid hxe
  have HI := hid hi
  have HCM := hid hcm
  clear hc hcells hat hrow hp hcp hsz hcells0 hxe hcm
  obtain ⟨n, hN⟩ : ∃ n, n = l.length := ⟨_, rfl⟩
  rw [← hN] at c1 hl hi hlc
  have HN := hid hN
  clear hN
  obtain ⟨key, val, pins⟩ := x
  unfold ItemAt at hx
  dsimp only at hx
  obtain ⟨x0, x1, x2⟩ := hx
  have hi0 : (0 : Int) ≤ (i : Int) := by omega
  have hi1 : (i : Int) < (n : Int) := by omega
  have hi2 : (i : Int) + 1 ≤ (c : Int) := by omega
  have hi3 : (1 : Int) ≤ (i : Int) + 1 := by omega
  have hi4 : (i : Int) ≤ (c : Int) := by omega
  have hw1 : IntKind.i64.wrap ((i : Int) + 1) = (i : Int) + 1 := by rw [IntKind.wrap_i64]; omega
  have htn : ((i : Int) + 1).toNat = i + 1 := by omega
  have hb0 : (0 : Int) ≤ (i : Int) + 1 := by omega
  have hb2 : ¬ (c = 1) := by omega
  have hn0 : (0 : Int) < (n : Int) := by omega
  have hn0n : 0 < n := by omega
  have mixed : Try.prog.follows .mixedOrders = true := by kernel_rfl
  go_enter Try.func30, Try.ntmps30
  go_wp2_with fail
  go_region_law_o (refine step_copy_runI rfl _ _ 74 74 rfl (.slice (some ⟨g, 3, none⟩) i (c - 1)) (.slice (some ⟨g, 0, none⟩) i c) (by simp [Act.eval, Act.put]) (by simp [Act.eval, Act.put]) (HCP.out _ (Grow.trans (Grow.alloc _ _) (Grow.drew _)) 3 i (c - 1) i c rfl rfl) ?_)
  all_goals
    have GA := hid (Grow.trans (Grow.alloc w (.cells #[.string key, .int .i64 val, .int .i64 pins] 79)) (Grow.drew _))
    have q1 : ((w.alloc (.cells #[.string key, .int .i64 val, .int .i64 pins] 79)).drew.setCells g 3 (itemCells (l.take i))).cell? ⟨p, 1, none⟩ = some (.slice (some ⟨g, 0, none⟩) n c) := by
      rw [World.cell?_setCells_out g _ _ _ _ (fun h _ => absurd h (by show p ≠ g; omega))]
      exact GA.out.cell c1
    have hnb : (w.alloc (.cells #[.string key, .int .i64 val, .int .i64 pins] 79)).drew.heap[w.heap.size]? = some (.cells #[.string key, .int .i64 val, .int .i64 pins] 79 (0, 0)) := (Grow.drew _).heap (heap_new w _)
    have yy : ∀ j, ((w.alloc (.cells #[.string key, .int .i64 val, .int .i64 pins] 79)).drew.setCells g 3 (itemCells (l.take i))).cell? ⟨w.heap.size, j, none⟩ = (#[Value.string key, .int .i64 val, .int .i64 pins] : Array Value)[j]? := fun j => by
      rw [World.cell?_setCells_out g _ _ _ _ (fun h _ => absurd h (by show w.heap.size ≠ g; omega)), heap_cell hnb]
    have y0 := (yy 0).trans (show _ = some (.string key) from rfl)
    have y1 := (yy 1).trans (show _ = some (.int .i64 val) from rfl)
    have y2 := (yy 2).trans (show _ = some (.int .i64 pins) from rfl)
    have SZ := hid (Sized.sets g (itemCells (l.take i)) 3 _ (HS.out.grow GA.out))
    have HF1 := hid (HF.out _ (HS.out.grow GA.out) (fun j hj => (GA.out.cells g j hglt).trans (HC0.out j hj)))
    have MV := hid (Moved.setCells (p := p) (row := some g) (.inr (.inl rfl)) (itemCells (l.take i)) 3 _ (Moved.of_grow GA.out))
    have HPW := hid (show ((w.alloc (.cells #[.string key, .int .i64 val, .int .i64 pins] 79)).drew.setCells g 3 (itemCells (l.take i))).heap[p]? = some (.cells #[.int .i64 most, .slice (some ⟨g, 0, none⟩) n c] 76 (0, 0)) from by
      rw [heap_setCells_out _ _ _ (by omega)]
      have := GA.out.heap HP.out
      rwa [← HN.out] at this)
    have hpw : p < ((w.alloc (.cells #[.string key, .int .i64 val, .int .i64 pins] 79)).drew.setCells g 3 (itemCells (l.take i))).heap.size := heap_lt HPW.out
    clear HCP HF GA yy hnb x0 x1 x2 c1 HS
    generalize (w.alloc (.cells #[.string key, .int .i64 val, .int .i64 pins] 79)).drew.setCells g 3 (itemCells (l.take i)) = W1 at *
    obtain ⟨z0, hz0⟩ := Option.isSome_iff_exists.1 (SZ.out.isSome 0 (by omega))
    obtain ⟨z1, hz1⟩ := Option.isSome_iff_exists.1 (SZ.out.isSome 1 (by omega))
    obtain ⟨z2, hz2⟩ := Option.isSome_iff_exists.1 (SZ.out.isSome 2 (by omega))
    have f0 := SZ.out.free 0
    have f1 := SZ.out.free 1
    have f2 := SZ.out.free 2
    have hne1 : g ≠ p := by omega
    have hne2 : g ≠ w.heap.size := by omega
    go_wp2_with fail
    go_region_held3 (fun w' => w'.cell? ⟨p, 1, none⟩ = some (.slice (some ⟨g, 0, none⟩) n c) ∧ w'.cell? ⟨w.heap.size, 0, none⟩ = some (.string key) ∧ w'.cell? ⟨w.heap.size, 1, none⟩ = some (.int .i64 val) ∧ w'.cell? ⟨w.heap.size, 2, none⟩ = some (.int .i64 pins)) (go_keep) (fail)
    all_goals go_wp2_with fail
    all_goals
      first | go_end0 | ((try simp only [Exit.inBlock, Exit.then]); refine bodyPost_ret (results_none rfl _ _ _) rfl ?_)
      have hrowx : (l[i]'HI.out).row = [.string key, .int .i64 val, .int .i64 pins] := by rw [HXE.out]; rfl
      have e : ((W1.setCell ⟨g, 0, none⟩ (.string key)).setCell ⟨g, 1, none⟩ (.int .i64 val)).setCell ⟨g, 2, none⟩ (.int .i64 pins) = W1.setCells g 0 (l[i]'HI.out).row := by rw [hrowx]; rfl
      rw [e]
      refine ⟨⟨_, rfl⟩, CacheAt.grow ⟨?_, ?_⟩ (Grow.drew _), (Moved.setCells (.inr (.inl rfl)) _ 0 _ MV.out).grow (Grow.drew _)⟩
      · rw [heap_setCells_out _ _ _ (by omega), ← HN.out]
        exact HPW.out
      · rw [frontL_length i l HI.out]
        exact own_of_cells (by omega) (Sized.sets g _ 0 _ SZ.out) (by have := HN.out; omega) HCM.out (by rw [itemCells_length, frontL_length i l HI.out]) HF1.out
set_option maxRecDepth 100000 in
set_option maxHeartbeats 4000000 in
theorem front0_c (p : Nat) (most : Int) (v : Value) (l : List CItem) (w : World) (hc : CacheAt w p most v l) (hl : l.length ≤ 1000000) (hi : 0 < l.length) :
    Calls Try.prog 30 #[.pointer (some ⟨p, 0, none⟩), .int .i64 0] w fun e w' => (∃ u, e = .returned u) ∧ CacheAt w' p most v (frontL 0 l) ∧ Moved p v.ownBlock w w' := by
  obtain ⟨A, c, rfl, hlc, hcells⟩ := hc.form
  obtain ⟨g, rfl, hpg, hsz, hcm, hat⟩ := hcells (by omega)
  have hx := hat 0 hi
  have hrow := hc.2
  have hp := hc.1
  have hcells0 : ∀ j, j < l.length * 3 → w.cell? ⟨g, j, none⟩ = (itemCells l)[j]? := fun j hj => hrow.cellAt j hj
  have c1 : w.cell? ⟨p, 1, none⟩ = some (.slice (some ⟨g, 0, none⟩) l.length c) := by rw [heap_cell hp]; rfl
  have hplt := heap_lt hp
  have hglt : g < w.heap.size := by have := hsz; obtain ⟨cur, h1, h2⟩ := this; exact heap_lt h1
  obtain ⟨x, hxe⟩ : ∃ x, l[0] = x := ⟨_, rfl⟩
  rw [hxe] at hx
  have u63 := Try.underlying74
  have hcp : ∀ (W : World) ty d dc sc, (Builtin.copy_ #[74, 74] ty #[.slice (some d) 0 dc, .slice (some ⟨g, 0, none⟩) 0 sc]).run Try.prog W = .ok (goInt 0) W := fun W ty d dc sc => run_copy_noneK W _ _ ty 79 (some d) (some ⟨g, 0, none⟩) 0 dc 0 sc 3 u63 infoItem rfl
  have HCP := hid hcp
  have HF := hid (fun (W : World) (hs : Sized W g 79 (c * 3)) (hcl : ∀ j, j < l.length * 3 → W.cell? ⟨g, j, none⟩ = (itemCells l)[j]?) => front_cells l 0 hi hs (by omega) hcl)
  have HS := hid hsz
  have HC0 := hid hcells0
  have HP := hid hp
  have HXE := hid hxe
  have HI := hid hi
  have HCM := hid hcm
  clear hc hcells hat hrow hp hcp hsz hcells0 hxe hcm
  obtain ⟨n, hN⟩ : ∃ n, n = l.length := ⟨_, rfl⟩
  rw [← hN] at c1 hl hi hlc
  have HN := hid hN
  clear hN
  obtain ⟨key, val, pins⟩ := x
  unfold ItemAt at hx
  dsimp only at hx
  obtain ⟨x0, x1, x2⟩ := hx
  have hn0 : (0 : Int) < (n : Int) := by omega
  have hn0n : 0 < n := by omega
  have hc1 : (1 : Int) ≤ (c : Int) := by omega
  have hw1 : IntKind.i64.wrap (0 + 1) = 1 := by decide
  have hw2 : IntKind.i64.wrap 1 = 1 := by decide
  have hc0 : (0 : Int) ≤ (c : Int) := by omega
  have mixed : Try.prog.follows .mixedOrders = true := by kernel_rfl
  by_cases hone : c = 1
  · subst hone
    go_enter Try.func30, Try.ntmps30
    go_wp2_with fail
    go_region_law_o (refine step_copy_runI rfl _ _ 74 74 rfl (.slice (some ⟨g, 0, none⟩) 0 0) (.slice (some ⟨g, 0, none⟩) 0 1) (by simp [Act.eval, Act.put]) (by simp [Act.eval, Act.put]) (HCP.out _ 3 _ _ _) ?_)
    all_goals
      have GA := hid (Grow.trans (Grow.alloc w (.cells #[.string key, .int .i64 val, .int .i64 pins] 79)) (Grow.drew _))
      have q1 : ((w.alloc (.cells #[.string key, .int .i64 val, .int .i64 pins] 79)).drew).cell? ⟨p, 1, none⟩ = some (.slice (some ⟨g, 0, none⟩) n 1) := by
        exact GA.out.cell c1
      have hnb : (w.alloc (.cells #[.string key, .int .i64 val, .int .i64 pins] 79)).drew.heap[w.heap.size]? = some (.cells #[.string key, .int .i64 val, .int .i64 pins] 79 (0, 0)) := (Grow.drew _).heap (heap_new w _)
      have yy : ∀ j, ((w.alloc (.cells #[.string key, .int .i64 val, .int .i64 pins] 79)).drew).cell? ⟨w.heap.size, j, none⟩ = (#[Value.string key, .int .i64 val, .int .i64 pins] : Array Value)[j]? := fun j => by
        rw [heap_cell hnb]
      have y0 := (yy 0).trans (show _ = some (.string key) from rfl)
      have y1 := (yy 1).trans (show _ = some (.int .i64 val) from rfl)
      have y2 := (yy 2).trans (show _ = some (.int .i64 pins) from rfl)
      have SZ := hid (HS.out.grow GA.out)
      have HF1 := hid (show ∀ j, j < l.length * 3 → ((w.alloc (.cells #[.string key, .int .i64 val, .int .i64 pins] 79)).drew.setCells g 0 (l[0]'HI.out).row).cell? ⟨g, j, none⟩ = (itemCells (frontL 0 l))[j]? from HF.out (w.alloc (.cells #[.string key, .int .i64 val, .int .i64 pins] 79)).drew (HS.out.grow GA.out) (fun j hj => (GA.out.cells g j hglt).trans (HC0.out j hj)))
      have MV := hid (Moved.of_grow (p := p) (row := some g) GA.out)
      have HPW := hid (show ((w.alloc (.cells #[.string key, .int .i64 val, .int .i64 pins] 79)).drew).heap[p]? = some (.cells #[.int .i64 most, .slice (some ⟨g, 0, none⟩) n 1] 76 (0, 0)) from by
        have := GA.out.heap HP.out
        rwa [← HN.out] at this)
      have hpw : p < ((w.alloc (.cells #[.string key, .int .i64 val, .int .i64 pins] 79)).drew).heap.size := heap_lt HPW.out
      clear HCP HF GA yy hnb x0 x1 x2 c1 HS
      generalize (w.alloc (.cells #[.string key, .int .i64 val, .int .i64 pins] 79)).drew = W1 at *
      obtain ⟨z0, hz0⟩ := Option.isSome_iff_exists.1 (SZ.out.isSome 0 (by omega))
      obtain ⟨z1, hz1⟩ := Option.isSome_iff_exists.1 (SZ.out.isSome 1 (by omega))
      obtain ⟨z2, hz2⟩ := Option.isSome_iff_exists.1 (SZ.out.isSome 2 (by omega))
      have f0 := SZ.out.free 0
      have f1 := SZ.out.free 1
      have f2 := SZ.out.free 2
      have hne1 : g ≠ p := by omega
      have hne2 : g ≠ w.heap.size := by omega
      go_wp2_with fail
      go_region_held3 (fun w' => w'.cell? ⟨p, 1, none⟩ = some (.slice (some ⟨g, 0, none⟩) n 1) ∧ w'.cell? ⟨w.heap.size, 0, none⟩ = some (.string key) ∧ w'.cell? ⟨w.heap.size, 1, none⟩ = some (.int .i64 val) ∧ w'.cell? ⟨w.heap.size, 2, none⟩ = some (.int .i64 pins)) (go_keep) (fail)
      all_goals go_wp2_with fail
      all_goals
        first | go_end0 | ((try simp only [Exit.inBlock, Exit.then]); refine bodyPost_ret (results_none rfl _ _ _) rfl ?_)
        have hrowx : (l[0]'HI.out).row = [.string key, .int .i64 val, .int .i64 pins] := by rw [HXE.out]; rfl
        have e : ((W1.setCell ⟨g, 0, none⟩ (.string key)).setCell ⟨g, 1, none⟩ (.int .i64 val)).setCell ⟨g, 2, none⟩ (.int .i64 pins) = W1.setCells g 0 (l[0]'HI.out).row := by rw [hrowx]; rfl
        rw [e]
        refine ⟨⟨_, rfl⟩, CacheAt.grow ⟨?_, ?_⟩ (Grow.drew _), (Moved.setCells (.inr (.inl rfl)) _ 0 _ MV.out).grow (Grow.drew _)⟩
        · rw [heap_setCells_out _ _ _ (by omega), ← HN.out]
          exact HPW.out
        · rw [frontL_length 0 l HI.out]
          exact own_of_cells (by omega) (Sized.sets g _ 0 _ SZ.out) (by have := HN.out; omega) HCM.out (by rw [itemCells_length, frontL_length 0 l HI.out]) HF1.out
  · have hone2 : ¬ (c = 1) := hone
    go_enter Try.func30, Try.ntmps30
    go_wp2_with fail
    go_region_law_o (refine step_copy_runI rfl _ _ 74 74 rfl (.slice (some ⟨g, 3, none⟩) 0 (c - 1)) (.slice (some ⟨g, 0, none⟩) 0 c) (by simp [Act.eval, Act.put]) (by simp [Act.eval, Act.put]) (HCP.out _ 3 _ _ _) ?_)
    all_goals
      have GA := hid (Grow.trans (Grow.alloc w (.cells #[.string key, .int .i64 val, .int .i64 pins] 79)) (Grow.drew _))
      have q1 : ((w.alloc (.cells #[.string key, .int .i64 val, .int .i64 pins] 79)).drew).cell? ⟨p, 1, none⟩ = some (.slice (some ⟨g, 0, none⟩) n c) := by
        exact GA.out.cell c1
      have hnb : (w.alloc (.cells #[.string key, .int .i64 val, .int .i64 pins] 79)).drew.heap[w.heap.size]? = some (.cells #[.string key, .int .i64 val, .int .i64 pins] 79 (0, 0)) := (Grow.drew _).heap (heap_new w _)
      have yy : ∀ j, ((w.alloc (.cells #[.string key, .int .i64 val, .int .i64 pins] 79)).drew).cell? ⟨w.heap.size, j, none⟩ = (#[Value.string key, .int .i64 val, .int .i64 pins] : Array Value)[j]? := fun j => by
        rw [heap_cell hnb]
      have y0 := (yy 0).trans (show _ = some (.string key) from rfl)
      have y1 := (yy 1).trans (show _ = some (.int .i64 val) from rfl)
      have y2 := (yy 2).trans (show _ = some (.int .i64 pins) from rfl)
      have SZ := hid (HS.out.grow GA.out)
      have HF1 := hid (show ∀ j, j < l.length * 3 → ((w.alloc (.cells #[.string key, .int .i64 val, .int .i64 pins] 79)).drew.setCells g 0 (l[0]'HI.out).row).cell? ⟨g, j, none⟩ = (itemCells (frontL 0 l))[j]? from HF.out (w.alloc (.cells #[.string key, .int .i64 val, .int .i64 pins] 79)).drew (HS.out.grow GA.out) (fun j hj => (GA.out.cells g j hglt).trans (HC0.out j hj)))
      have MV := hid (Moved.of_grow (p := p) (row := some g) GA.out)
      have HPW := hid (show ((w.alloc (.cells #[.string key, .int .i64 val, .int .i64 pins] 79)).drew).heap[p]? = some (.cells #[.int .i64 most, .slice (some ⟨g, 0, none⟩) n c] 76 (0, 0)) from by
        have := GA.out.heap HP.out
        rwa [← HN.out] at this)
      have hpw : p < ((w.alloc (.cells #[.string key, .int .i64 val, .int .i64 pins] 79)).drew).heap.size := heap_lt HPW.out
      clear HCP HF GA yy hnb x0 x1 x2 c1 HS
      generalize (w.alloc (.cells #[.string key, .int .i64 val, .int .i64 pins] 79)).drew = W1 at *
      obtain ⟨z0, hz0⟩ := Option.isSome_iff_exists.1 (SZ.out.isSome 0 (by omega))
      obtain ⟨z1, hz1⟩ := Option.isSome_iff_exists.1 (SZ.out.isSome 1 (by omega))
      obtain ⟨z2, hz2⟩ := Option.isSome_iff_exists.1 (SZ.out.isSome 2 (by omega))
      have f0 := SZ.out.free 0
      have f1 := SZ.out.free 1
      have f2 := SZ.out.free 2
      have hne1 : g ≠ p := by omega
      have hne2 : g ≠ w.heap.size := by omega
      go_wp2_with fail
      go_region_held3 (fun w' => w'.cell? ⟨p, 1, none⟩ = some (.slice (some ⟨g, 0, none⟩) n c) ∧ w'.cell? ⟨w.heap.size, 0, none⟩ = some (.string key) ∧ w'.cell? ⟨w.heap.size, 1, none⟩ = some (.int .i64 val) ∧ w'.cell? ⟨w.heap.size, 2, none⟩ = some (.int .i64 pins)) (go_keep) (fail)
      all_goals go_wp2_with fail
      all_goals
        first | go_end0 | ((try simp only [Exit.inBlock, Exit.then]); refine bodyPost_ret (results_none rfl _ _ _) rfl ?_)
        have hrowx : (l[0]'HI.out).row = [.string key, .int .i64 val, .int .i64 pins] := by rw [HXE.out]; rfl
        have e : ((W1.setCell ⟨g, 0, none⟩ (.string key)).setCell ⟨g, 1, none⟩ (.int .i64 val)).setCell ⟨g, 2, none⟩ (.int .i64 pins) = W1.setCells g 0 (l[0]'HI.out).row := by rw [hrowx]; rfl
        rw [e]
        refine ⟨⟨_, rfl⟩, CacheAt.grow ⟨?_, ?_⟩ (Grow.drew _), (Moved.setCells (.inr (.inl rfl)) _ 0 _ MV.out).grow (Grow.drew _)⟩
        · rw [heap_setCells_out _ _ _ (by omega), ← HN.out]
          exact HPW.out
        · rw [frontL_length 0 l HI.out]
          exact own_of_cells (by omega) (Sized.sets g _ 0 _ SZ.out) (by have := HN.out; omega) HCM.out (by rw [itemCells_length, frontL_length 0 l HI.out]) HF1.out
end Go.Proofs.Ytjccfodadiaokaa.Str
