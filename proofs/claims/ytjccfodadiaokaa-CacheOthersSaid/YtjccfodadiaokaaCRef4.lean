/- What the reference's calls compute: Pin. -/
import Derived.Test.YtjccfodadiaokaaCRef3
import Derived.Test.YtjccfodadiaokaaCPut
namespace Go.Proofs.Ytjccfodadiaokaa
open Go.RowKit
set_option linter.unusedVariables false
set_option linter.unusedSimpArgs false
/-- Pinned by so many. -/
def pinOne (k d : Int) (x : CItem) : CItem := if x.key = k then { x with pins := x.pins + d } else x
def pinR (k d : Int) (l : List CItem) : List CItem := l.map (pinOne k d)
def pinTo (k d : Int) (l : List CItem) (j : Nat) : List CItem := pinR k d (l.take j) ++ l.drop j
theorem pinTo_length (k d : Int) (l : List CItem) (j : Nat) : (pinTo k d l j).length = l.length := by
  unfold pinTo pinR
  rw [List.length_append, List.length_map, List.length_take, List.length_drop]
  omega
theorem pinTo_at (k d : Int) (l : List CItem) (j : Nat) (hj : j < l.length) : ∃ h : j < (pinTo k d l j).length, (pinTo k d l j)[j] = l[j] := by
  refine ⟨by rw [pinTo_length]; exact hj, ?_⟩
  unfold pinTo pinR
  rw [List.getElem_append_right (by rw [List.length_map, List.length_take]; omega)]
  simp [List.length_take, Nat.min_eq_left (Nat.le_of_lt hj)]
theorem pinTo_step (k d : Int) (l : List CItem) (j : Nat) (hj : j < l.length) : pinTo k d l (j + 1) = (pinTo k d l j).set j (pinOne k d l[j]) := by
  unfold pinTo pinR
  rw [List.take_succ_eq_append_getElem hj, List.map_append, List.append_assoc, List.set_append_right _ _ (by rw [List.length_map, List.length_take]; omega)]
  congr 1
  have e : l.drop j = l[j] :: l.drop (j + 1) := (List.drop_eq_getElem_cons hj)
  rw [e, List.length_map, List.length_take, Nat.min_eq_left (Nat.le_of_lt hj), Nat.sub_self]
  rfl
theorem pinTo_skip (k d : Int) (l : List CItem) (j : Nat) (hj : j < l.length) (hne : (l[j]).key ≠ k) : pinTo k d l (j + 1) = pinTo k d l j := by
  rw [pinTo_step k d l j hj]
  have e : pinOne k d l[j] = l[j] := by unfold pinOne; rw [if_neg hne]
  obtain ⟨h, e2⟩ := pinTo_at k d l j hj
  rw [e, ← e2]
  exact List.set_getElem_self h
theorem pinTo_all (k d : Int) (l : List CItem) : pinTo k d l l.length = pinR k d l := by simp [pinTo]
theorem pinTo_none (k d : Int) (l : List CItem) : pinTo k d l 0 = l := by simp [pinTo, pinR]
theorem own_items_set {w : World} {base g c : Nat} {e : TypeId} {l : List CItem} (h : w.ownsRow base e 3 (.slice (some ⟨g, 0, none⟩) l.length c) l.length (itemCells l)) (i r : Nat) (x : CItem) (u : Value) (hi : i < l.length) (hr : r < 3) (hx : x.row = (l[i]).row.set r u) :
    (w.setCell ⟨g, i * 3 + r, none⟩ u).ownsRow base e 3 (.slice (some ⟨g, 0, none⟩) l.length c) l.length (itemCells (l.set i x)) := by
  obtain ⟨hsz, hnc, hcm, hbg, -⟩ := own_sized h
  refine own_of_cells hbg (hsz.set g _ u) hnc hcm (by rw [itemCells_length, List.length_set]) ?_
  have := set_cells (e := e) l i r x u hi hr hx hsz (by omega) (fun j hj => h.cellAt j hj)
  rwa [List.length_set] at this
set_option maxRecDepth 100000 in
set_option maxHeartbeats 1000000 in
theorem RPinNo_c (most : Int) (v : Value) (l : List CItem) (k d : Int) (w : World) (hv : ROwn w v l) (hb : ∀ x ∈ l, x.key ≠ k) :
    Calls Try.prog 37 #[.agg #[.int .i64 most, v], .int .i64 k, .int .i64 d] w fun e w' => (∃ v', e = .returned (.tuple #[.agg #[.int .i64 most, v'], .bool false]) ∧ ROwn w' v' l) ∧ Grow w w' := by
  have HF := hid (fun (w' : World) (g : Grow w w') => RFindNo_c most v l k w' (hv.grow g).items hb)
  have HV := hid hv
  obtain ⟨A, c, rfl, -, -, -⟩ := hv.items
  clear hv hb
  generalize l.length = n at *
  unfold rrow noItem at HF
  dsimp only at HF
  have G2 := hid (Grow.trans (Grow.alloc w (.cells #[.int .i64 most, .slice A n c] 57)) (Grow.alloc _ (.cells #[.int .i64 0, .slice none 0 0] 57)))
  have B0 := hid (heap_alloc_keep (heap_new w (.cells #[.int .i64 most, .slice A n c] 57)) (.cells #[.int .i64 0, .slice none 0 0] 57))
  have B1 := hid (heap_newAt (g := w.heap.size + 1) (w.alloc (.cells #[.int .i64 most, .slice A n c] 57)) (.cells #[.int .i64 0, .slice none 0 0] 57) (by simp))
  go_enter Try.func37, Try.ntmps37
  go_wp2_with fail
  refine (HF.out _ G2.out).mono ?_
  rintro e w4 ⟨rfl, g4⟩
  have b0 := g4.heap B0.out
  have b1 := g4.heap B1.out
  have hg4 := Grow.trans G2.out g4
  have G4 := hid hg4
  clear g4 B0 B1 G2 HF hg4
  have p0 : w4.cell? ⟨w.heap.size, 0, none⟩ = some (.int .i64 most) := by rw [heap_cell b0]; rfl
  have p1 : w4.cell? ⟨w.heap.size, 1, none⟩ = some (.slice A n c) := by rw [heap_cell b0]; rfl
  have q0 : w4.cell? ⟨w.heap.size + 1, 0, none⟩ = some (.int .i64 0) := by rw [heap_cell b1]; rfl
  have q1 : w4.cell? ⟨w.heap.size + 1, 1, none⟩ = some (.slice none 0 0) := by rw [heap_cell b1]; rfl
  have q2 : w4.frozen? ⟨w.heap.size + 1, 0, none⟩ = false := heap_frozen b1 0 (by omega)
  have q3 : w4.frozen? ⟨w.heap.size + 1, 1, none⟩ = false := heap_frozen b1 1 (by omega)
  have hl1 := heap_lt b1
  have hl0 := heap_lt b0
  have K1 := hid b1
  clear b0 b1
  go_wp2_with fail
  (try simp only [Exit.inBlock, Exit.then])
  refine bodyPost_ret (v := .tuple #[.agg #[.int .i64 most, .slice A n c], .bool false]) ?_ rfl ⟨⟨_, rfl, ?_⟩, ?_⟩
  · refine results_cellK2 (fn := Try.f37) (p := 6) (u := 7) rfl _ _ (w.heap.size + 1) 57 _ (0, 0) _ rfl (heap_alloc_keep (heap_set (heap_set K1.out 0 _) 1 _) _) Try.underlying57 rfl ?_
    kernel_rfl
  · exact HV.out.grow (Below.mono' (Below.setCell (Below.setCell G4.out (by show w.heap.size ≤ w.heap.size + 1; omega) _) (by show w.heap.size ≤ w.heap.size + 1; omega) _) (by simp; omega) _)
  · exact (Below.mono' (Below.setCell (Below.setCell G4.out (by show w.heap.size ≤ w.heap.size + 1; omega) _) (by show w.heap.size ≤ w.heap.size + 1; omega) _) (by simp; omega) _)
set_option maxRecDepth 100000 in
set_option maxHeartbeats 1000000 in
theorem RPinZero_c (most : Int) (v : Value) (l : List CItem) (k d : Int) (i : Nat) (w : World) (hv : ROwn w v l) (hi : i < l.length) (hk : (l[i]).key = k) (hb : ∀ j (h : j < l.length), j < i → (l[j]).key ≠ k) (hd : d < 0) (hz : (l[i]).pins = 0) :
    Calls Try.prog 37 #[.agg #[.int .i64 most, v], .int .i64 k, .int .i64 d] w fun e w' => (∃ v', e = .returned (.tuple #[.agg #[.int .i64 most, v'], .bool false]) ∧ ROwn w' v' l) ∧ Grow w w' := by
  have HF := hid (fun (w' : World) (g : Grow w w') => RFindIn_c most v l k i w' (hv.grow g).items hi hk hb)
  generalize l[i] = x at *
  have HV := hid hv
  obtain ⟨A, c, rfl, -, -, -⟩ := hv.items
  clear hv hb hk
  generalize l.length = n at *
  obtain ⟨key, val, pins⟩ := x
  unfold rrow at HF
  dsimp only at HF hz
  subst hz
  have G2 := hid (Grow.trans (Grow.alloc w (.cells #[.int .i64 most, .slice A n c] 57)) (Grow.alloc _ (.cells #[.int .i64 0, .slice none 0 0] 57)))
  have B0 := hid (heap_alloc_keep (heap_new w (.cells #[.int .i64 most, .slice A n c] 57)) (.cells #[.int .i64 0, .slice none 0 0] 57))
  have B1 := hid (heap_newAt (g := w.heap.size + 1) (w.alloc (.cells #[.int .i64 most, .slice A n c] 57)) (.cells #[.int .i64 0, .slice none 0 0] 57) (by simp))
  go_enter Try.func37, Try.ntmps37
  go_wp2_with fail
  refine (HF.out _ G2.out).mono ?_
  rintro e w4 ⟨rfl, g4⟩
  have b0 := g4.heap B0.out
  have b1 := g4.heap B1.out
  have hg4 := Grow.trans G2.out g4
  have G4 := hid hg4
  clear g4 B0 B1 G2 HF hg4
  have p0 : w4.cell? ⟨w.heap.size, 0, none⟩ = some (.int .i64 most) := by rw [heap_cell b0]; rfl
  have p1 : w4.cell? ⟨w.heap.size, 1, none⟩ = some (.slice A n c) := by rw [heap_cell b0]; rfl
  have q0 : w4.cell? ⟨w.heap.size + 1, 0, none⟩ = some (.int .i64 0) := by rw [heap_cell b1]; rfl
  have q1 : w4.cell? ⟨w.heap.size + 1, 1, none⟩ = some (.slice none 0 0) := by rw [heap_cell b1]; rfl
  have q2 : w4.frozen? ⟨w.heap.size + 1, 0, none⟩ = false := heap_frozen b1 0 (by omega)
  have q3 : w4.frozen? ⟨w.heap.size + 1, 1, none⟩ = false := heap_frozen b1 1 (by omega)
  have hl1 := heap_lt b1
  have hl0 := heap_lt b0
  have K1 := hid b1
  clear b0 b1
  go_wp2_with fail
  (try simp only [Exit.inBlock, Exit.then])
  refine bodyPost_ret (v := .tuple #[.agg #[.int .i64 most, .slice A n c], .bool false]) ?_ rfl ⟨⟨_, rfl, ?_⟩, ?_⟩
  · refine results_cellK2 (fn := Try.f37) (p := 6) (u := 7) rfl _ _ (w.heap.size + 1) 57 _ (0, 0) _ rfl (heap_alloc_keep (heap_set (heap_set K1.out 0 _) 1 _) _) Try.underlying57 rfl ?_
    kernel_rfl
  · exact HV.out.grow (Below.mono' (Below.setCell (Below.setCell G4.out (by show w.heap.size ≤ w.heap.size + 1; omega) _) (by show w.heap.size ≤ w.heap.size + 1; omega) _) (by simp; omega) _)
  · exact (Below.mono' (Below.setCell (Below.setCell G4.out (by show w.heap.size ≤ w.heap.size + 1; omega) _) (by show w.heap.size ≤ w.heap.size + 1; omega) _) (by simp; omega) _)
set_option maxRecDepth 100000 in
set_option maxHeartbeats 1000000 in
theorem RPinYes_c (most : Int) (v : Value) (l : List CItem) (k d : Int) (i : Nat) (w : World) (hv : ROwn w v l) (hi : i < l.length) (hk : (l[i]).key = k) (hb : ∀ j (h : j < l.length), j < i → (l[j]).key ≠ k) (hd : 0 ≤ d ∨ (l[i]).pins ≠ 0) (hd1 : -1 ≤ d ∧ d ≤ 1) (hp : ∀ x ∈ l, 0 ≤ x.pins ∧ x.pins ≤ 1000000000) :
    Calls Try.prog 37 #[.agg #[.int .i64 most, v], .int .i64 k, .int .i64 d] w fun e w' => (∃ v', e = .returned (.tuple #[.agg #[.int .i64 most, v'], .bool true]) ∧ ROwn w' v' (pinR k d l)) ∧ Grow w w' := by
  have HF := hid (fun (w' : World) (g : Grow w w') => RFindIn_c most v l k i w' (hv.grow g).items hi hk hb)
  have hl4 := hv.2
  have HV := hid hv
  have HP := hid hp
  have HT0 := hid (pinTo_none k d l)
  have HTL := hid (fun j => pinTo_length k d l j)
  have HTA := hid (fun j hj => pinTo_at k d l j hj)
  have HTS := hid (fun j hj => pinTo_step k d l j hj)
  have HTK := hid (fun j hj => pinTo_skip k d l j hj)
  have HTE := hid (pinTo_all k d l)
  generalize hx : l[i] = x at *
  have HCW := hid (fun (w' : World) (g : Grow w w') => (hv.grow g).1)
  obtain ⟨g0, c, rfl⟩ : ∃ g0 c, v = .slice (some ⟨g0, 0, none⟩) l.length c := by
    obtain ⟨⟨base, h⟩, -⟩ := hv
    rcases h.2 with ⟨-, h0⟩ | ⟨g, cap, cur, h, -⟩
    · omega
    · exact ⟨g, cap, h⟩
  clear hv hb hp hk hx
  obtain ⟨n, hN⟩ : ∃ n, n = l.length := ⟨_, rfl⟩
  rw [← hN] at HF HV HCW hl4 hi HTE ⊢
  have HN := hid hN
  clear hN
  obtain ⟨key, val, pins⟩ := x
  unfold rrow at HF
  dsimp only at HF hd
  have hdb : (decide (d < 0) = false) ∨ (decide (d < 0) = true ∧ (pins == 0) = false) := by
    by_cases h : d < 0
    · exact .inr ⟨by simp [h], by simp; omega⟩
    · exact .inl (by simp; omega)
  have G2 := hid (Grow.trans (Grow.alloc w (.cells #[.int .i64 most, .slice (some ⟨g0, 0, none⟩) n c] 57)) (Grow.alloc _ (.cells #[.int .i64 0, .slice none 0 0] 57)))
  have B0 := hid (heap_alloc_keep (heap_new w (.cells #[.int .i64 most, .slice (some ⟨g0, 0, none⟩) n c] 57)) (.cells #[.int .i64 0, .slice none 0 0] 57))
  have B1 := hid (heap_newAt (g := w.heap.size + 1) (w.alloc (.cells #[.int .i64 most, .slice (some ⟨g0, 0, none⟩) n c] 57)) (.cells #[.int .i64 0, .slice none 0 0] 57) (by simp))
  go_enter Try.func37, Try.ntmps37
  go_wp2_with fail
  refine (HF.out _ G2.out).mono ?_
  rintro e w4 ⟨rfl, g4⟩
  have b0 := g4.heap B0.out
  have b1 := g4.heap B1.out
  have hg4 := Grow.trans G2.out g4
  have G4 := hid hg4
  clear g4 B0 B1 G2 HF hg4
  have p0 : w4.cell? ⟨w.heap.size, 0, none⟩ = some (.int .i64 most) := by rw [heap_cell b0]; rfl
  have p1 : w4.cell? ⟨w.heap.size, 1, none⟩ = some (.slice (some ⟨g0, 0, none⟩) n c) := by rw [heap_cell b0]; rfl
  have q0 : w4.cell? ⟨w.heap.size + 1, 0, none⟩ = some (.int .i64 0) := by rw [heap_cell b1]; rfl
  have q1 : w4.cell? ⟨w.heap.size + 1, 1, none⟩ = some (.slice none 0 0) := by rw [heap_cell b1]; rfl
  have q2 : w4.frozen? ⟨w.heap.size + 1, 0, none⟩ = false := heap_frozen b1 0 (by omega)
  have q3 : w4.frozen? ⟨w.heap.size + 1, 1, none⟩ = false := heap_frozen b1 1 (by omega)
  have hl1 := heap_lt b1
  have hl0 := heap_lt b0
  have K1 := hid b1
  have K0 := hid b0
  clear b0 b1
  have HEND := hid (show ∀ (wz W : World) (g c' : Nat), Grow w W → w.heap.size + 1 < W.heap.size → Below W.heap.size W wz → W.heap[w.heap.size + 1]? = some (.cells #[.int .i64 0, .slice none 0 0] 57 (0, 0)) → wz.ownsRow W.heap.size 53 3 (.slice (some ⟨g, 0, none⟩) n c') n (itemCells (pinR k d l)) →
      (∃ cs, ((((wz.setCell ⟨w.heap.size, 1, none⟩ (.slice (some ⟨g, 0, none⟩) n c')).setCell ⟨w.heap.size + 1, 0, none⟩ (.int .i64 most)).setCell ⟨w.heap.size + 1, 1, none⟩ (.slice (some ⟨g, 0, none⟩) n c'))).heap[w.heap.size + 1]? = some (.cells cs 57 (0, 0)) ∧ cs = #[.int .i64 most, .slice (some ⟨g, 0, none⟩) n c']) ∧
      ROwn (((wz.setCell ⟨w.heap.size, 1, none⟩ (.slice (some ⟨g, 0, none⟩) n c')).setCell ⟨w.heap.size + 1, 0, none⟩ (.int .i64 most)).setCell ⟨w.heap.size + 1, 1, none⟩ (.slice (some ⟨g, 0, none⟩) n c')) (.slice (some ⟨g, 0, none⟩) n c') (pinR k d l) ∧
      Grow w (((wz.setCell ⟨w.heap.size, 1, none⟩ (.slice (some ⟨g, 0, none⟩) n c')).setCell ⟨w.heap.size + 1, 0, none⟩ (.int .i64 most)).setCell ⟨w.heap.size + 1, 1, none⟩ (.slice (some ⟨g, 0, none⟩) n c')) from by
    intro wz W g c' h1 h2 h3 h4 h5
    have hb := (h3.block _ h2).trans h4
    have hlen : (pinR k d l).length = n := by unfold pinR; rw [List.length_map, ← HN.out]
    have h6 := own_set (own_set (own_set h5 w.heap.size 1 (.slice (some ⟨g, 0, none⟩) n c') (by omega)) (w.heap.size + 1) 0 (.int .i64 most) h2) (w.heap.size + 1) 1 (.slice (some ⟨g, 0, none⟩) n c') h2
    refine ⟨⟨_, heap_set (heap_set (heap_keep hb _ _ (by show w.heap.size + 1 ≠ w.heap.size; omega)) 0 _) 1 _, rfl⟩, ⟨⟨W.heap.size, by rw [hlen]; exact h6⟩, by rw [hlen]; exact hl4⟩, ?_⟩
    exact Below.setCell (Below.setCell (Below.setCell (Below.trans h1 (Below.mono h3 h1.size)) (Nat.le_refl _) _) (by show w.heap.size ≤ w.heap.size + 1; omega) _) (by show w.heap.size ≤ w.heap.size + 1; omega) _)
  have GW := hid (Grow.alloc w4 (.cells #[.int .i64 key, .string val, .int .i64 pins] 53))
  have hD : w.heap.size ≤ w4.heap.size := G4.out.size
  have kw := GW.out.heap K1.out
  have HVW := hid (HV.out.grow (Grow.trans G4.out GW.out))
  have GG := hid (Grow.trans G4.out GW.out)
  have hszW : (w4.alloc (.cells #[.int .i64 key, .string val, .int .i64 pins] 53)).heap.size = w4.heap.size + 1 := by simp
  have KW := hid kw
  have KB := hid (GW.out.heap K0.out)
  have P0 : (w4.alloc (.cells #[.int .i64 key, .string val, .int .i64 pins] 53)).cell? ⟨w.heap.size, 0, none⟩ = some (.int .i64 most) := GW.out.cell p0
  have P1 : (w4.alloc (.cells #[.int .i64 key, .string val, .int .i64 pins] 53)).cell? ⟨w.heap.size, 1, none⟩ = some (.slice (some ⟨g0, 0, none⟩) n c) := GW.out.cell p1
  clear kw
  obtain ⟨i0, hi0, hz0, hz1, hz2⟩ := info_parts infoRItem
  have own_zero : ∀ (w : World) (e : TypeId) (size B : Nat), B = w.heap.size → (w.alloc (.cells #[] e)).ownsRow B e size (.slice (some ⟨B, 0, none⟩) 0 0) 0 [] := fun w e size B h => by subst h; exact World.ownsRow_made w #[] 0 (Nat.le_refl _) (Nat.zero_le _) (by simp)
  rcases hdb with hdb | ⟨hdb, hpb⟩
  all_goals
    go_wp2_with (at_builtin; refine wpList_append_own _ rfl _ _ 50 rfl (w4.heap.size + 1) 53 i0 _ 3 32 Try.underlying50 hi0 hz0 hz1 hz2 rfl (by decide) _ 0 [] rfl ?ho ⟨g0, 0, none⟩ n c (itemCells l) rfl ?hlen ?qc2 (itemCells_one l) ?qc4 ?qc5 ?qc6 ?_)
    case ho => exact own_zero _ _ _ _ (by simp)
    case hlen => rw [itemCells_length, ← HN.out]
    case qc2 =>
      intro j u hj
      rw [Addr.add_lit, Nat.zero_add]
      obtain ⟨base, ho⟩ := HCW.out _ GG.out
      have hjl : j < n * 3 := by
        have := (List.getElem?_eq_some_iff.1 hj).1
        rwa [itemCells_length, ← HN.out] at this
      exact Lib.cell?_alloc_some _ ((ho.cellAt j hjl).trans hj)
    case qc4 => unfold maxLen; omega
    case qc5 => omega
    case qc6 => simp
    intro v' w6 hown hgrow hnil
    try simp only [Nat.zero_add, List.nil_append] at hown
    obtain ⟨g, c', rfl⟩ : ∃ g c', v' = .slice (some ⟨g, 0, none⟩) n c' := by
      rcases hown.2 with ⟨-, h0⟩ | ⟨g, cap, cur, h, -⟩
      · omega
      · exact ⟨g, cap, h⟩
    have hbel : Below (w4.heap.size + 1) (w4.alloc (.cells #[.int .i64 key, .string val, .int .i64 pins] 53)) w6 := Below.grown ((Below.refl _ _).alloc (by rw [hszW]; exact Nat.le_refl _) _) hgrow (by simp) (fun q hq => Nat.le_of_eq (Option.some.inj hq))
    have HB6 := hid hbel
    have HO6 := hid (show w6.ownsRow (w4.heap.size + 1) 53 3 (.slice (some ⟨g, 0, none⟩) n c') n (itemCells (pinTo k d l 0)) from by rw [HT0.out]; exact hown)
    have hgb : w4.heap.size + 1 ≤ g := (hown.lt g rfl).1
    clear hown hgrow hnil hbel p0 p1 q0 q1 q2 q3 GW G4 K1 K0 HCW HVW
    generalize (w4.alloc (.cells #[.int .i64 key, .string val, .int .i64 pins] 53)) = W at *
    rw [← hszW] at HO6 HB6 hgb
    have hl1W : w.heap.size + 1 < W.heap.size := by omega
    generalize w4.heap.size = D at *
    go_wp2_with fail
    go_loopw [11] (fun q wr => ∃ j : Nat, j ≤ n ∧ q = .int .i64 (j : Int) ∧ Hid (Below W.heap.size W wr) ∧ Hid (wr.ownsRow W.heap.size 53 3 (.slice (some ⟨g, 0, none⟩) n c') n (itemCells (pinTo k d l j)))) (fun q _ => n - (intOf q).toNat)
    case atStart => exact ⟨0, by omega, rfl, HB6, HO6⟩
    case round =>
      clear HB6 HO6
      obtain ⟨j, hj, rfl, HB, HO⟩ := hrel
      have hj0 : (0 : Int) ≤ (j : Int) := by omega
      by_cases hlt : j < n
      · have hj1 : (j : Int) < (n : Int) := by omega
        have hj2 : j < l.length := by have := HN.out; omega
        obtain ⟨hat1, hat2⟩ := HTA.out j hj2
        have hst := HTS.out j hj2
        have hsk := HTK.out j hj2
        have hpb := HP.out _ (List.getElem_mem hj2)
        have e0 := itemCells_at _ j 0 hat1 (by omega)
        have e2 := itemCells_at _ j 2 hat1 (by omega)
        rw [hat2] at e0 e2
        rw [Nat.add_zero] at e0
        have a0 := (HO.out.cellAt (j * 3) (by omega)).trans e0
        have a2 := (HO.out.cellAt (j * 3 + 2) (by omega)).trans e2
        obtain ⟨hszd, hnc, hcm, -, -⟩ := own_sized HO.out
        have af := hszd.free (j * 3 + 2)
        have hglt := (HO.out.lt g rfl).2
        have HAT := hid hat2
        clear e0 e2 hszd
        obtain ⟨x, hx⟩ : ∃ x, l[j] = x := ⟨_, rfl⟩
        rw [hx] at a0 a2 hst hsk hpb HAT
        clear hx hat2
        obtain ⟨xk, xv, xp⟩ := x
        replace a0 : wr.cell? ⟨g, j * 3, none⟩ = some (.int .i64 xk) := a0
        replace a2 : wr.cell? ⟨g, j * 3 + 2, none⟩ = some (.int .i64 xp) := a2
        dsimp only at hsk hpb
        by_cases hk : xk = k
        · have e0 : (xk == k) = true := by simp [hk]
          have hw : IntKind.i64.wrap (xp + d) = xp + d := by rw [IntKind.wrap_i64]; omega
          have HST := hid hst
          have HNX := hid (show (wr.setCell ⟨g, j * 3 + 2, none⟩ (.int .i64 (xp + d))).ownsRow W.heap.size 53 3 (.slice (some ⟨g, 0, none⟩) n c') n (itemCells (pinTo k d l (j + 1))) from by
            rw [HST.out]
            have hle := HTL.out j
            rw [← HN.out] at hle
            have := own_items_set (l := pinTo k d l j) (by rw [hle]; exact HO.out) j 2 (pinOne k d ⟨xk, xv, xp⟩) (.int .i64 (xp + d)) hat1 (by omega) (by rw [HAT.out]; unfold pinOne; rw [if_pos hk]; rfl)
            rwa [hle] at this)
          have HBX := hid (show Below W.heap.size W (wr.setCell ⟨g, j * 3 + 2, none⟩ (.int .i64 (xp + d))) from Below.setCell HB.out hgb _)
          clear hst hsk
          go_wp2_with fail
          refine ⟨⟨j + 1, by omega, by push_cast; rfl, HBX, HNX⟩, ?_⟩
          simp [intOf]; omega
        · have e0 : (xk == k) = false := by simp [hk]
          have HSK := hid (hsk hk)
          clear hst hsk
          go_wp2_with fail
          refine ⟨⟨j + 1, by omega, by push_cast; rfl, HB, by rw [HSK.out]; exact HO⟩, ?_⟩
          simp [intOf]; omega
      · obtain rfl : j = n := by omega
        have hj1 : ¬ (j : Int) < (j : Int) := by omega
        have h6 := HO.out
        rw [HTE.out] at h6
        have he := HEND.out wr W g c' GG.out hl1W HB.out KW.out h6
        have HE := hid he
        clear h6 he
        have k0 : wr.cell? ⟨w.heap.size, 0, none⟩ = some (.int .i64 most) := (HB.out.cell (by show w.heap.size < W.heap.size; omega)).trans P0
        have k1 : wr.cell? ⟨w.heap.size, 1, none⟩ = some (.slice (some ⟨g0, 0, none⟩) j c) := (HB.out.cell (by show w.heap.size < W.heap.size; omega)).trans P1
        have kh := (HB.out.block _ hl1W).trans KW.out
        have q0 : wr.cell? ⟨w.heap.size + 1, 0, none⟩ = some (.int .i64 0) := by rw [heap_cell kh]; rfl
        have q1 : wr.cell? ⟨w.heap.size + 1, 1, none⟩ = some (.slice none 0 0) := by rw [heap_cell kh]; rfl
        have q2 : wr.frozen? ⟨w.heap.size + 1, 0, none⟩ = false := heap_frozen kh 0 (by omega)
        have q3 : wr.frozen? ⟨w.heap.size + 1, 1, none⟩ = false := heap_frozen kh 1 (by omega)
        have q4 : wr.frozen? ⟨w.heap.size, 1, none⟩ = false := heap_frozen ((HB.out.block _ (by omega)).trans KB.out) 1 (by omega)
        have hlw1 := heap_lt kh
        have hlw0 : w.heap.size < wr.heap.size := by omega
        clear kh
        go_wp2_with fail
        (try simp only [Exit.inBlock, Exit.then])
        obtain ⟨⟨cs, hcs, rfl⟩, h2, h3⟩ := HE.out
        refine bodyPost_ret (v := .tuple #[.agg #[.int .i64 most, .slice (some ⟨g, 0, none⟩) j c'], .bool true]) ?_ rfl ⟨⟨_, rfl, h2⟩, h3⟩
        refine results_cellK2 (fn := Try.f37) (p := 6) (u := 7) rfl _ _ (w.heap.size + 1) 57 _ (0, 0) _ rfl hcs Try.underlying57 rfl ?_
        kernel_rfl
end Go.Proofs.Ytjccfodadiaokaa
