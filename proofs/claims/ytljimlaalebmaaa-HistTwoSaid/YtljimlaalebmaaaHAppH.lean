/- What hist.Apply tells of an edit: one that is changed. -/
import Derived.Test.YtljimlaalebmaaaHAppF
namespace Go.Proofs.Ytljimlaalebmaaa
open Go.RowKit
set_option linter.unusedVariables false
set_option linter.unusedSimpArgs false
theorem storeAt_eq (w : World) (g o : Nat) (r : OpR) : (((((((((((w.setCell ⟨g, o, none⟩ (.int .i64 r.id)).setCell ⟨g, o + 1, none⟩ (.int .i64 r.proc)).setCell ⟨g, o + 2, none⟩ (.int .i64 r.obj)).setCell ⟨g, o + 3, none⟩ (.int .i64 r.kind)).setCell ⟨g, o + 4, none⟩ (.int .i64 r.meth)).setCell ⟨g, o + 5, none⟩ (.int .i64 r.arg)).setCell ⟨g, o + 6, none⟩ (.int .i64 r.sec)).setCell ⟨g, o + 7, none⟩ (.bool r.done)).setCell ⟨g, o + 8, none⟩ (.int .i64 r.res)).setCell ⟨g, o + 9, none⟩ (.int .i64 r.inv)).setCell ⟨g, o + 10, none⟩ (.int .i64 r.ret)) = w.setCells g o r.row := rfl
theorem Grow.storeAt {a w : World} (h : Grow a w) (g o : Nat) (hg : a.heap.size ≤ g) (r : OpR) : Grow a (((((((((((w.setCell ⟨g, o, none⟩ (.int .i64 r.id)).setCell ⟨g, o + 1, none⟩ (.int .i64 r.proc)).setCell ⟨g, o + 2, none⟩ (.int .i64 r.obj)).setCell ⟨g, o + 3, none⟩ (.int .i64 r.kind)).setCell ⟨g, o + 4, none⟩ (.int .i64 r.meth)).setCell ⟨g, o + 5, none⟩ (.int .i64 r.arg)).setCell ⟨g, o + 6, none⟩ (.int .i64 r.sec)).setCell ⟨g, o + 7, none⟩ (.bool r.done)).setCell ⟨g, o + 8, none⟩ (.int .i64 r.res)).setCell ⟨g, o + 9, none⟩ (.int .i64 r.inv)).setCell ⟨g, o + 10, none⟩ (.int .i64 r.ret)) :=
  (Grow.setD (Grow.setD (Grow.setD (Grow.setD (Grow.setD (Grow.setD (Grow.setD (Grow.setD (Grow.setD (Grow.setD (Grow.setD h _ _ hg _) _ _ hg _) _ _ hg _) _ _ hg _) _ _ hg _) _ _ hg _) _ _ hg _) _ _ hg _) _ _ hg _) _ _ hg _) _ _ hg _)
theorem set_own {w : World} {base g n cap i : Nat} {l : List OpR} (h : w.ownsRow base 25 11 (.slice (some ⟨g, 0, none⟩) n cap) n (opCells l)) (hn : l.length = n) (hi : i < n) (r : OpR) :
    (((((((((((w.setCell ⟨g, i * 11, none⟩ (.int .i64 r.id)).setCell ⟨g, i * 11 + 1, none⟩ (.int .i64 r.proc)).setCell ⟨g, i * 11 + 2, none⟩ (.int .i64 r.obj)).setCell ⟨g, i * 11 + 3, none⟩ (.int .i64 r.kind)).setCell ⟨g, i * 11 + 4, none⟩ (.int .i64 r.meth)).setCell ⟨g, i * 11 + 5, none⟩ (.int .i64 r.arg)).setCell ⟨g, i * 11 + 6, none⟩ (.int .i64 r.sec)).setCell ⟨g, i * 11 + 7, none⟩ (.bool r.done)).setCell ⟨g, i * 11 + 8, none⟩ (.int .i64 r.res)).setCell ⟨g, i * 11 + 9, none⟩ (.int .i64 r.inv)).setCell ⟨g, i * 11 + 10, none⟩ (.int .i64 r.ret)).ownsRow base 25 11 (.slice (some ⟨g, 0, none⟩) n cap) n (opCells (l.set i r)) := by
  rw [storeAt_eq]
  obtain ⟨hs, hnc, hcm, hb, -⟩ := own_sized h
  refine own_of_cells hb (Sized.sets g _ _ _ hs) hnc hcm (by rw [opCells_length, List.length_set, hn]) ?_
  intro j hj
  have hA : (opCells (l.take i)).length = i * 11 := by rw [opCells_length, List.length_take]; rw [Nat.min_eq_left (by omega)]
  have e1 : opCells (l.set i r) = opCells (l.take i) ++ (r.row ++ opCells (l.drop (i + 1))) := by
    rw [List.set_eq_take_append_cons_drop, if_pos (by omega), opCells_append]
    rfl
  have e0 : opCells l = opCells (l.take i) ++ ((l[i]'(by omega)).row ++ opCells (l.drop (i + 1))) := by
    conv => lhs; rw [split_at i l (by omega)]
    rw [opCells_append, opCells_append, cells_one]
  by_cases h1 : j < i * 11
  · rw [World.cell?_setCells_out g _ _ _ _ (fun _ _ => .inl (by show j < i * 11; exact h1)), h.cellAt j hj, e1, e0, List.getElem?_append_left (by rw [hA]; exact h1), List.getElem?_append_left (by rw [hA]; exact h1)]
  · by_cases h2 : j < i * 11 + 11
    · have := World.cell?_setCells_in g r.row (i * 11) w (fun q hq => hs.isSome _ (by rw [row_length] at hq; omega)) (j - i * 11) (by rw [row_length]; omega)
      rw [show i * 11 + (j - i * 11) = j by omega] at this
      rw [this, e1, List.getElem?_append_right (by rw [hA]; omega), hA, List.getElem?_append_left (by rw [row_length]; omega), List.getElem?_eq_getElem]
    · have f1 : (opCells (l.set i r))[j]? = (opCells (l.drop (i + 1)))[j - i * 11 - 11]? := by rw [e1, List.getElem?_append_right (by rw [hA]; omega), hA, List.getElem?_append_right (by rw [row_length]; omega), row_length]
      have f0 : (opCells l)[j]? = (opCells (l.drop (i + 1)))[j - i * 11 - 11]? := by rw [e0, List.getElem?_append_right (by rw [hA]; omega), hA, List.getElem?_append_right (by rw [row_length]; omega), row_length]
      rw [World.cell?_setCells_out g _ _ _ _ (fun _ _ => .inr (by rw [row_length]; show i * 11 + 11 ≤ j; omega)), h.cellAt j hj, f0, f1]
theorem own_some {w : World} {base n : Nat} {v : Value} {xs : List Value} (h : w.ownsRow base 25 11 v n xs) (hn : 0 < n) : ∃ g cap, v = .slice (some ⟨g, 0, none⟩) n cap := by
  rcases h.2 with ⟨-, h0⟩ | ⟨g, cap, cur, h1, -⟩
  · omega
  · exact ⟨g, cap, h1⟩
theorem own_at {w : World} {base g n cap i : Nat} {l : List OpR} (h : w.ownsRow base 25 11 (.slice (some ⟨g, 0, none⟩) n cap) n (opCells l)) (hn : l.length = n) (hi : i < n) : OpAt w g (i * 11) (opAt l i) := by
  have hc := fun j hj => h.cellAt j hj
  unfold OpAt
  have key : ∀ k, k < 11 → w.cell? ⟨g, i * 11 + k, none⟩ = ((opAt l i).row)[k]? := fun k hk => by
    rw [hc _ (by omega), opCells_at l i k (by omega) hk, opAt_eq (by omega)]
  exact ⟨key 0 (by omega), key 1 (by omega), key 2 (by omega), key 3 (by omega), key 4 (by omega), key 5 (by omega), key 6 (by omega), key 7 (by omega), key 8 (by omega), key 9 (by omega), key 10 (by omega)⟩
theorem drewBox {w : World} {g : Nat} {o : OpR} (h : OpBox w g o) : OpBox w.drew g o := h.grow (Grow.drew _)
theorem drewAt {w : World} {b off : Nat} {o : OpR} (h : OpAt w b off o) : OpAt w.drew b off o := h.grow (Grow.drew _)
theorem keepH {w : World} {G b off : Nat} {rid rproc robj rkind rmeth rarg rsec rres rinv rret : Int} {rdone : Bool} {yid yproc yobj ykind ymeth yarg ysec yres yinv yret : Int} {ydone : Bool} (h0 : OpBox w G ⟨rid, rproc, robj, rkind, rmeth, rarg, rsec, rdone, rres, rinv, rret⟩) (hy : OpAt w b off ⟨yid, yproc, yobj, ykind, ymeth, yarg, ysec, ydone, yres, yinv, yret⟩) :
    w.cell? ⟨G, 0, none⟩ = some (.int .i64 rid) ∧ w.cell? ⟨G, 1, none⟩ = some (.int .i64 rproc) ∧ w.cell? ⟨G, 2, none⟩ = some (.int .i64 robj) ∧ w.cell? ⟨G, 3, none⟩ = some (.int .i64 rkind) ∧ w.cell? ⟨G, 4, none⟩ = some (.int .i64 rmeth) ∧ w.cell? ⟨G, 5, none⟩ = some (.int .i64 rarg) ∧ w.cell? ⟨G, 6, none⟩ = some (.int .i64 rsec) ∧ w.cell? ⟨G, 7, none⟩ = some (.bool rdone) ∧ w.cell? ⟨G, 8, none⟩ = some (.int .i64 rres) ∧ w.cell? ⟨G, 9, none⟩ = some (.int .i64 rinv) ∧ w.cell? ⟨G, 10, none⟩ = some (.int .i64 rret) ∧ w.cell? ⟨b, off, none⟩ = some (.int .i64 yid) ∧ w.cell? ⟨b, off + 1, none⟩ = some (.int .i64 yproc) ∧ w.cell? ⟨b, off + 2, none⟩ = some (.int .i64 yobj) ∧ w.cell? ⟨b, off + 3, none⟩ = some (.int .i64 ykind) ∧ w.cell? ⟨b, off + 4, none⟩ = some (.int .i64 ymeth) ∧ w.cell? ⟨b, off + 5, none⟩ = some (.int .i64 yarg) ∧ w.cell? ⟨b, off + 6, none⟩ = some (.int .i64 ysec) ∧ w.cell? ⟨b, off + 7, none⟩ = some (.bool ydone) ∧ w.cell? ⟨b, off + 8, none⟩ = some (.int .i64 yres) ∧ w.cell? ⟨b, off + 9, none⟩ = some (.int .i64 yinv) ∧ w.cell? ⟨b, off + 10, none⟩ = some (.int .i64 yret) := by
  obtain ⟨a0, a1, a2, a3, a4, a5, a6, a7, a8, a9, a10⟩ := h0.at
  obtain ⟨b0, b1, b2, b3, b4, b5, b6, b7, b8, b9, b10⟩ := hy
  exact ⟨a0, a1, a2, a3, a4, a5, a6, a7, a8, a9, a10, b0, b1, b2, b3, b4, b5, b6, b7, b8, b9, b10⟩
theorem past_r {w : World} {g g2 : Nat} {o : OpR} {rid rproc robj rkind rmeth rarg rsec rres rinv rret : Int} {rdone : Bool} (h : OpBox w g o) (hne : g ≠ g2) : OpBox (((((((((((w.setCell ⟨g2, 0, none⟩ (.int .i64 rid)).setCell ⟨g2, 1, none⟩ (.int .i64 rproc)).setCell ⟨g2, 2, none⟩ (.int .i64 robj)).setCell ⟨g2, 3, none⟩ (.int .i64 rkind)).setCell ⟨g2, 4, none⟩ (.int .i64 rmeth)).setCell ⟨g2, 5, none⟩ (.int .i64 rarg)).setCell ⟨g2, 6, none⟩ (.int .i64 rsec)).setCell ⟨g2, 7, none⟩ (.bool rdone)).setCell ⟨g2, 8, none⟩ (.int .i64 rres)).setCell ⟨g2, 9, none⟩ (.int .i64 rinv)).setCell ⟨g2, 10, none⟩ (.int .i64 rret)) g o := OpBox.past h ⟨rid, rproc, robj, rkind, rmeth, rarg, rsec, rdone, rres, rinv, rret⟩ hne
set_option maxRecDepth 100000 in
set_option maxHeartbeats 4000000 in
/-- One that is changed. -/
theorem appH_c (k : Int) (e y r : OpR) (i : Nat) (p : Option Addr) (n cap : Nat) (w : World) (l : List OpR) (hv : Ops w (.slice p n cap) l) (hn : l.length = n) (hi : i < n) (hl : n ≤ 1000000) (hy : opAt l i = y) (hp : ∀ w' : World, Grow w w' → Calls Try.prog 14 #[.slice p n cap, .int .i64 e.id] w' fun en w'' => en = .returned (.tuple #[.int .i64 (i : Int), .bool true]) ∧ Grow w' w'') (hch : ∀ w' : World, Calls Try.prog 18 #[.agg #[.int .i64 y.id, .int .i64 y.proc, .int .i64 y.obj, .int .i64 y.kind, .int .i64 y.meth, .int .i64 y.arg, .int .i64 y.sec, .bool y.done, .int .i64 y.res, .int .i64 y.inv, .int .i64 y.ret], .agg #[.int .i64 k, .int .i64 e.id, .int .i64 e.proc, .int .i64 e.obj, .int .i64 e.kind, .int .i64 e.meth, .int .i64 e.arg, .int .i64 e.sec, .bool e.done, .int .i64 e.res, .int .i64 e.inv, .int .i64 e.ret]] w' fun en w'' => en = .returned (.tuple #[.agg #[.int .i64 r.id, .int .i64 r.proc, .int .i64 r.obj, .int .i64 r.kind, .int .i64 r.meth, .int .i64 r.arg, .int .i64 r.sec, .bool r.done, .int .i64 r.res, .int .i64 r.inv, .int .i64 r.ret], .int .i64 0]) ∧ Grow w' w'') (hck : ∀ w : World, Calls Try.prog 19 #[.agg #[.int .i64 r.id, .int .i64 r.proc, .int .i64 r.obj, .int .i64 r.kind, .int .i64 r.meth, .int .i64 r.arg, .int .i64 r.sec, .bool r.done, .int .i64 r.res, .int .i64 r.inv, .int .i64 r.ret]] w fun e w' => e = .returned (.int .i64 0) ∧ Grow w w') (hbk : ∀ w' : World, Grow w w' → Calls Try.prog 20 #[.slice p n cap, .agg #[.int .i64 r.id, .int .i64 r.proc, .int .i64 r.obj, .int .i64 r.kind, .int .i64 r.meth, .int .i64 r.arg, .int .i64 r.sec, .bool r.done, .int .i64 r.res, .int .i64 r.inv, .int .i64 r.ret]] w' fun e w'' => e = .returned (.int .i64 0) ∧ Grow w' w'') (hk : ¬ k < 1) (hk2 : ¬ 6 < k) (hk3 : ¬ k = 1) (hk4 : ¬ k = 2) :
    Calls Try.prog 7 #[.slice p n cap, .agg #[.int .i64 k, .int .i64 e.id, .int .i64 e.proc, .int .i64 e.obj, .int .i64 e.kind, .int .i64 e.meth, .int .i64 e.arg, .int .i64 e.sec, .bool e.done, .int .i64 e.res, .int .i64 e.inv, .int .i64 e.ret]] w fun en w' => ∃ v', en = .returned (.tuple #[v', opV y, opV r, .int .i64 0]) ∧ w'.ownsRow w.heap.size 25 11 v' (l.set i r).length (opCells (l.set i r)) ∧ Grow w w' := by
  have HP := hid hp
  have HCL := hid (fun w' (g : Grow w w') => HClone_c l _ w' (hv.grow g) (by omega))
  obtain ⟨p', cap', e1, -, hcc⟩ := hv.read
  rw [hn] at e1
  cases e1
  obtain ⟨b, off, rfl, hya⟩ := hcc i (by omega)
  rw [hy] at hya
  have hbw : b < w.heap.size := World.block_lt_of_cell? w _ hya.1
  have HY := hid (fun w' (g : Grow w w') => hya.grow g)
  have HCH := hid hch
  have HK := hid hck
  have HBK := hid hbk
  have HHY := hid hy
  have HHN := hid hn
  have HHL := hid hl
  unfold opV
  clear hp hv hcc hya hy hn hch hck hbk hl
  obtain ⟨id, proc, obj, kind, meth, arg, sec, done, res, inv, ret⟩ := e
  obtain ⟨yid, yproc, yobj, ykind, ymeth, yarg, ysec, ydone, yres, yinv, yret⟩ := y
  obtain ⟨rid, rproc, robj, rkind, rmeth, rarg, rsec, rdone, rres, rinv, rret⟩ := r
  have hk0 : (0 : Int) ≤ (i : Int) := by omega
  have hk1 : (i : Int) < (n : Int) := by omega
  go_enter Try.func7, Try.ntmps7
  go_wp2_with fail
  refine (HP.out _ (Grow.trans (Grow.trans (Grow.trans (Grow.alloc _ _) (Grow.alloc _ _)) (Grow.alloc _ _)) (Grow.alloc _ _))).mono ?_
  rintro en w1 ⟨rfl, b1⟩
  obtain ⟨B0, B1, B2, B3, G1⟩ := appBoxes w w1 k ⟨id, proc, obj, kind, meth, arg, sec, done, res, inv, ret⟩ b1
  clear b1
  have z1 : w.heap.size + 1 + 1 + 1 < w1.heap.size := B3.lt
  have q0 := B0.at
  unfold OpAt at q0
  dsimp only at q0
  simp only [Nat.reduceAdd] at q0
  obtain ⟨ak, a0, a1, a2, a3, a4, a5, a6, a7, a8, a9, a10⟩ := q0
  have HB0 := hid B0
  have HB1 := hid B1
  have HB2 := hid B2
  have HB3 := hid B3
  have HG1 := hid G1
  clear B0 B1 B2 B3 G1
  have hnew : w1.heap.size ≠ b := by omega
  have hnew0 : w1.heap.size ≠ w.heap.size := by omega
  go_wp2_with fail
  clear ak a0 a1 a2 a3 a4 a5 a6 a7 a8 a9 a10
  have X0d := HB0.out.grow (Grow.drew _)
  have XYd := HY.out _ (Grow.trans HG1.out (Grow.drew _))
  have X0a := X0d.grow (Grow.alloc _ (.cells #[.int .i64 0, .int .i64 0, .int .i64 0, .int .i64 0, .int .i64 0, .int .i64 0, .int .i64 0, .bool false, .int .i64 0, .int .i64 0, .int .i64 0] 25))
  have XYa := XYd.grow (Grow.alloc _ (.cells #[.int .i64 0, .int .i64 0, .int .i64 0, .int .i64 0, .int .i64 0, .int .i64 0, .int .i64 0, .bool false, .int .i64 0, .int .i64 0, .int .i64 0] 25))
  have X0b := (HB0.out.grow (Grow.alloc _ (.cells #[.int .i64 0, .int .i64 0, .int .i64 0, .int .i64 0, .int .i64 0, .int .i64 0, .int .i64 0, .bool false, .int .i64 0, .int .i64 0, .int .i64 0] 25))).grow (Grow.drew _)
  have XYb := ((HY.out _ HG1.out).grow (Grow.alloc _ (.cells #[.int .i64 0, .int .i64 0, .int .i64 0, .int .i64 0, .int .i64 0, .int .i64 0, .int .i64 0, .bool false, .int .i64 0, .int .i64 0, .int .i64 0] 25))).grow (Grow.drew _)
  go_region_held3 (fun w' => w'.cell? ⟨w.heap.size, 0, none⟩ = some (.int .i64 k) ∧ w'.cell? ⟨w.heap.size, 1, none⟩ = some (.int .i64 id) ∧ w'.cell? ⟨w.heap.size, 2, none⟩ = some (.int .i64 proc) ∧ w'.cell? ⟨w.heap.size, 3, none⟩ = some (.int .i64 obj) ∧ w'.cell? ⟨w.heap.size, 4, none⟩ = some (.int .i64 kind) ∧ w'.cell? ⟨w.heap.size, 5, none⟩ = some (.int .i64 meth) ∧ w'.cell? ⟨w.heap.size, 6, none⟩ = some (.int .i64 arg) ∧ w'.cell? ⟨w.heap.size, 7, none⟩ = some (.int .i64 sec) ∧ w'.cell? ⟨w.heap.size, 8, none⟩ = some (.bool done) ∧ w'.cell? ⟨w.heap.size, 9, none⟩ = some (.int .i64 res) ∧ w'.cell? ⟨w.heap.size, 10, none⟩ = some (.int .i64 inv) ∧ w'.cell? ⟨w.heap.size, 11, none⟩ = some (.int .i64 ret) ∧ w'.cell? ⟨b, off + i * 11, none⟩ = some (.int .i64 yid) ∧ w'.cell? ⟨b, off + i * 11 + 1, none⟩ = some (.int .i64 yproc) ∧ w'.cell? ⟨b, off + i * 11 + 2, none⟩ = some (.int .i64 yobj) ∧ w'.cell? ⟨b, off + i * 11 + 3, none⟩ = some (.int .i64 ykind) ∧ w'.cell? ⟨b, off + i * 11 + 4, none⟩ = some (.int .i64 ymeth) ∧ w'.cell? ⟨b, off + i * 11 + 5, none⟩ = some (.int .i64 yarg) ∧ w'.cell? ⟨b, off + i * 11 + 6, none⟩ = some (.int .i64 ysec) ∧ w'.cell? ⟨b, off + i * 11 + 7, none⟩ = some (.bool ydone) ∧ w'.cell? ⟨b, off + i * 11 + 8, none⟩ = some (.int .i64 yres) ∧ w'.cell? ⟨b, off + i * 11 + 9, none⟩ = some (.int .i64 yinv) ∧ w'.cell? ⟨b, off + i * 11 + 10, none⟩ = some (.int .i64 yret))
    (refine keepF ?_ ?_ <;> first
      | with_reducible assumption
      | (with_reducible refine edPast_r ?_ (by omega); with_reducible assumption)
      | (with_reducible refine atPast_r ?_ (by omega); with_reducible assumption))
    ((first
      | (go_at_call 18; first
        | (refine (HCH.out w1.drew).mono ?_; rintro en w2 ⟨rfl, g2⟩; have way1 := True.intro; have G2 := hid (Grow.trans (Grow.drew _) g2); have Y0 := HB0.out.grow G2.out; have YL := HY.out _ (Grow.trans HG1.out G2.out); have Y0a := Y0.grow (Grow.alloc _ (.cells #[.int .i64 0, .int .i64 0, .int .i64 0, .int .i64 0, .int .i64 0, .int .i64 0, .int .i64 0, .bool false, .int .i64 0, .int .i64 0, .int .i64 0] 25)); have YLa := YL.grow (Grow.alloc _ (.cells #[.int .i64 0, .int .i64 0, .int .i64 0, .int .i64 0, .int .i64 0, .int .i64 0, .int .i64 0, .bool false, .int .i64 0, .int .i64 0, .int .i64 0] 25)); have Y0r := Y0.grow (Grow.alloc _ (.cells #[.int .i64 rid, .int .i64 rproc, .int .i64 robj, .int .i64 rkind, .int .i64 rmeth, .int .i64 rarg, .int .i64 rsec, .bool rdone, .int .i64 rres, .int .i64 rinv, .int .i64 rret] 25)); have YLr := YL.grow (Grow.alloc _ (.cells #[.int .i64 rid, .int .i64 rproc, .int .i64 robj, .int .i64 rkind, .int .i64 rmeth, .int .i64 rarg, .int .i64 rsec, .bool rdone, .int .i64 rres, .int .i64 rinv, .int .i64 rret] 25)))
        | (refine (HCH.out _).mono ?_; rintro en w2 ⟨rfl, g2⟩; have way2 := True.intro
           have NB := hid (OpBox.grow (o := opZ) ((Grow.drew _).heap (heap_new w1 (.cells #[.int .i64 0, .int .i64 0, .int .i64 0, .int .i64 0, .int .i64 0, .int .i64 0, .int .i64 0, .bool false, .int .i64 0, .int .i64 0, .int .i64 0] 25))) g2)
           have G2 := hid (Grow.trans (Grow.trans (Grow.alloc _ (.cells #[.int .i64 0, .int .i64 0, .int .i64 0, .int .i64 0, .int .i64 0, .int .i64 0, .int .i64 0, .bool false, .int .i64 0, .int .i64 0, .int .i64 0] 25)) (Grow.drew _)) g2); have Y0 := HB0.out.grow G2.out; have YL := HY.out _ (Grow.trans HG1.out G2.out)
           obtain ⟨f0, f1, f2, f3, f4, f5, f6, f7, f8, f9, f10⟩ := NB.out.open
           have q1 := NB.out.at
           unfold OpAt opZ at q1
           dsimp only at q1
           simp only [Nat.zero_add] at q1
           obtain ⟨d0, d1, d2, d3, d4, d5, d6, d7, d8, d9, d10⟩ := q1)))) 
  all_goals first
    | (have := way1
       have WB : OpBox (w2.alloc (.cells #[.int .i64 rid, .int .i64 rproc, .int .i64 robj, .int .i64 rkind, .int .i64 rmeth, .int .i64 rarg, .int .i64 rsec, .bool rdone, .int .i64 rres, .int .i64 rinv, .int .i64 rret] 25)) w2.heap.size ⟨rid, rproc, robj, rkind, rmeth, rarg, rsec, rdone, rres, rinv, rret⟩ := heap_new w2 (.cells #[.int .i64 rid, .int .i64 rproc, .int .i64 robj, .int .i64 rkind, .int .i64 rmeth, .int .i64 rarg, .int .i64 rsec, .bool rdone, .int .i64 rres, .int .i64 rinv, .int .i64 rret] 25)
       have WG : Grow w1 (w2.alloc (.cells #[.int .i64 rid, .int .i64 rproc, .int .i64 robj, .int .i64 rkind, .int .i64 rmeth, .int .i64 rarg, .int .i64 rsec, .bool rdone, .int .i64 rres, .int .i64 rinv, .int .i64 rret] 25)) := Grow.trans G2.out (Grow.alloc _ _)
       have hg1 : w1.heap.size ≤ w2.heap.size := G2.out.size
       clear G2 g2 Y0 YL Y0a YLa Y0r YLr
       generalize w2.alloc (.cells #[.int .i64 rid, .int .i64 rproc, .int .i64 robj, .int .i64 rkind, .int .i64 rmeth, .int .i64 rarg, .int .i64 rsec, .bool rdone, .int .i64 rres, .int .i64 rinv, .int .i64 rret] 25) = W at *
       generalize w2.heap.size = g at *)
    | (have := way2
       have WB : OpBox (((((((((((w2.setCell ⟨w1.heap.size, 0, none⟩ (.int .i64 rid)).setCell ⟨w1.heap.size, 1, none⟩ (.int .i64 rproc)).setCell ⟨w1.heap.size, 2, none⟩ (.int .i64 robj)).setCell ⟨w1.heap.size, 3, none⟩ (.int .i64 rkind)).setCell ⟨w1.heap.size, 4, none⟩ (.int .i64 rmeth)).setCell ⟨w1.heap.size, 5, none⟩ (.int .i64 rarg)).setCell ⟨w1.heap.size, 6, none⟩ (.int .i64 rsec)).setCell ⟨w1.heap.size, 7, none⟩ (.bool rdone)).setCell ⟨w1.heap.size, 8, none⟩ (.int .i64 rres)).setCell ⟨w1.heap.size, 9, none⟩ (.int .i64 rinv)).setCell ⟨w1.heap.size, 10, none⟩ (.int .i64 rret)) w1.heap.size ⟨rid, rproc, robj, rkind, rmeth, rarg, rsec, rdone, rres, rinv, rret⟩ := NB.out.store ⟨rid, rproc, robj, rkind, rmeth, rarg, rsec, rdone, rres, rinv, rret⟩
       have WG : Grow w1 (((((((((((w2.setCell ⟨w1.heap.size, 0, none⟩ (.int .i64 rid)).setCell ⟨w1.heap.size, 1, none⟩ (.int .i64 rproc)).setCell ⟨w1.heap.size, 2, none⟩ (.int .i64 robj)).setCell ⟨w1.heap.size, 3, none⟩ (.int .i64 rkind)).setCell ⟨w1.heap.size, 4, none⟩ (.int .i64 rmeth)).setCell ⟨w1.heap.size, 5, none⟩ (.int .i64 rarg)).setCell ⟨w1.heap.size, 6, none⟩ (.int .i64 rsec)).setCell ⟨w1.heap.size, 7, none⟩ (.bool rdone)).setCell ⟨w1.heap.size, 8, none⟩ (.int .i64 rres)).setCell ⟨w1.heap.size, 9, none⟩ (.int .i64 rinv)).setCell ⟨w1.heap.size, 10, none⟩ (.int .i64 rret)) := Grow.store G2.out _ (Nat.le_refl _) ⟨rid, rproc, robj, rkind, rmeth, rarg, rsec, rdone, rres, rinv, rret⟩
       have hg1 : w1.heap.size ≤ w1.heap.size := Nat.le_refl _
       clear G2 g2 Y0 YL NB f0 f1 f2 f3 f4 f5 f6 f7 f8 f9 f10 d0 d1 d2 d3 d4 d5 d6 d7 d8 d9 d10
       generalize (((((((((((w2.setCell ⟨w1.heap.size, 0, none⟩ (.int .i64 rid)).setCell ⟨w1.heap.size, 1, none⟩ (.int .i64 rproc)).setCell ⟨w1.heap.size, 2, none⟩ (.int .i64 robj)).setCell ⟨w1.heap.size, 3, none⟩ (.int .i64 rkind)).setCell ⟨w1.heap.size, 4, none⟩ (.int .i64 rmeth)).setCell ⟨w1.heap.size, 5, none⟩ (.int .i64 rarg)).setCell ⟨w1.heap.size, 6, none⟩ (.int .i64 rsec)).setCell ⟨w1.heap.size, 7, none⟩ (.bool rdone)).setCell ⟨w1.heap.size, 8, none⟩ (.int .i64 rres)).setCell ⟨w1.heap.size, 9, none⟩ (.int .i64 rinv)).setCell ⟨w1.heap.size, 10, none⟩ (.int .i64 rret)) = W at *
       generalize hgw : w1.heap.size = g at *)
  all_goals
    have B1 := HB1.out.grow WG
    have B2 := HB2.out.grow WG
    have B3 := HB3.out.grow WG
    have G1 := Grow.trans HG1.out WG
    have q0 := WB.at
    unfold OpAt at q0
    dsimp only at q0
    simp only [Nat.zero_add] at q0
    obtain ⟨a0, a1, a2, a3, a4, a5, a6, a7, a8, a9, a10⟩ := q0
    have HWB := hid WB
    have HB1 := hid B1
    have HB2 := hid B2
    have HB3 := hid B3
    have HG1 := hid G1
    clear WB B1 B2 B3 G1 WG
    go_wp2_with fail
    refine (HK.out _).mono ?_
    rintro en w5 ⟨rfl, b5⟩
    have WB := HWB.out.grow b5
    have B1 := HB1.out.grow b5
    have B2 := HB2.out.grow b5
    have B3 := HB3.out.grow b5
    have G1 := Grow.trans HG1.out b5
    have WG := True.intro
    clear a0 a1 a2 a3 a4 a5 a6 a7 a8 a9 a10 HWB HB1 HB2 HB3 HG1
    have q0 := WB.at
    unfold OpAt at q0
    dsimp only at q0
    simp only [Nat.zero_add] at q0
    obtain ⟨a0, a1, a2, a3, a4, a5, a6, a7, a8, a9, a10⟩ := q0
    have HWB := hid WB
    have HB1 := hid B1
    have HB2 := hid B2
    have HB3 := hid B3
    have HG1 := hid G1
    clear WB B1 B2 B3 G1 WG
    go_wp2_with fail
    refine (HBK.out _ HG1.out).mono ?_
    rintro en w6 ⟨rfl, b6⟩
    have WB := HWB.out.grow b6
    have B1 := HB1.out.grow b6
    have B2 := HB2.out.grow b6
    have B3 := HB3.out.grow b6
    have G1 := Grow.trans HG1.out b6
    have WG := True.intro
    clear a0 a1 a2 a3 a4 a5 a6 a7 a8 a9 a10 HWB HB1 HB2 HB3 HG1
    have q0 := WB.at
    unfold OpAt at q0
    dsimp only at q0
    simp only [Nat.zero_add] at q0
    obtain ⟨a0, a1, a2, a3, a4, a5, a6, a7, a8, a9, a10⟩ := q0
    have HWB := hid WB
    have HB1 := hid B1
    have HB2 := hid B2
    have HB3 := hid B3
    have HG1 := hid G1
    clear WB B1 B2 B3 G1 WG
    go_wp2_with fail
    refine (HCL.out _ HG1.out).mono ?_
    rintro en w7 ⟨v7, rfl, o7, g7⟩
    obtain ⟨G, cp, e7⟩ := own_some o7 (by rw [HHN.out]; omega)
    rw [HHN.out] at e7 o7
    subst e7
    have hya := own_at o7 HHN.out hi
    rw [HHY.out] at hya
    obtain ⟨hsz, -, -, hbG, -⟩ := own_sized o7
    have hfr : ∀ j, w7.frozen? ⟨G, j, none⟩ = false := fun j => hsz.free j
    have WB := HWB.out.grow g7
    have HO := hid o7
    have g7h := hid g7
    have hGn : G ≠ g := by have := HWB.out.lt; omega
    have hGb : G ≠ b := by have := HB3.out.lt; omega
    have z7 := g7.size
    unfold OpAt at hya
    dsimp only at hya
    obtain ⟨d0, d1, d2, d3, d4, d5, d6, d7, d8, d9, d10⟩ := hya
    have q0 := WB.at
    unfold OpAt at q0
    dsimp only at q0
    simp only [Nat.zero_add] at q0
    clear a0 a1 a2 a3 a4 a5 a6 a7 a8 a9 a10
    obtain ⟨a0, a1, a2, a3, a4, a5, a6, a7, a8, a9, a10⟩ := q0
    have HW7 := hid WB
    clear o7 hsz g7 WB
    go_wp2_with fail
    have OW := set_own HO.out HHN.out hi ⟨rid, rproc, robj, rkind, rmeth, rarg, rsec, rdone, rres, rinv, rret⟩
    have GW6 : Grow w6 (((((((((((w7.setCell ⟨G, i * 11, none⟩ (.int .i64 rid)).setCell ⟨G, i * 11 + 1, none⟩ (.int .i64 rproc)).setCell ⟨G, i * 11 + 2, none⟩ (.int .i64 robj)).setCell ⟨G, i * 11 + 3, none⟩ (.int .i64 rkind)).setCell ⟨G, i * 11 + 4, none⟩ (.int .i64 rmeth)).setCell ⟨G, i * 11 + 5, none⟩ (.int .i64 rarg)).setCell ⟨G, i * 11 + 6, none⟩ (.int .i64 rsec)).setCell ⟨G, i * 11 + 7, none⟩ (.bool rdone)).setCell ⟨G, i * 11 + 8, none⟩ (.int .i64 rres)).setCell ⟨G, i * 11 + 9, none⟩ (.int .i64 rinv)).setCell ⟨G, i * 11 + 10, none⟩ (.int .i64 rret)) := Grow.storeAt g7h.out G (i * 11) (by omega) ⟨rid, rproc, robj, rkind, rmeth, rarg, rsec, rdone, rres, rinv, rret⟩
    dsimp only at OW
    clear d0 d1 d2 d3 d4 d5 d6 d7 d8 d9 d10 a0 a1 a2 a3 a4 a5 a6 a7 a8 a9 a10 hfr HW7 HO g7h z7
    generalize (((((((((((w7.setCell ⟨G, i * 11, none⟩ (.int .i64 rid)).setCell ⟨G, i * 11 + 1, none⟩ (.int .i64 rproc)).setCell ⟨G, i * 11 + 2, none⟩ (.int .i64 robj)).setCell ⟨G, i * 11 + 3, none⟩ (.int .i64 rkind)).setCell ⟨G, i * 11 + 4, none⟩ (.int .i64 rmeth)).setCell ⟨G, i * 11 + 5, none⟩ (.int .i64 rarg)).setCell ⟨G, i * 11 + 6, none⟩ (.int .i64 rsec)).setCell ⟨G, i * 11 + 7, none⟩ (.bool rdone)).setCell ⟨G, i * 11 + 8, none⟩ (.int .i64 rres)).setCell ⟨G, i * 11 + 9, none⟩ (.int .i64 rinv)).setCell ⟨G, i * 11 + 10, none⟩ (.int .i64 rret)) = W8 at *
    have X0 := HWB.out.grow GW6
    have XL := HY.out _ (Grow.trans HG1.out GW6)
    have X0d := X0.grow (Grow.drew _)
    have XLd := XL.grow (Grow.drew _)
    have KB1 := hid (HB1.out.grow GW6)
    have KB2 := hid (HB2.out.grow GW6)
    have HG8 := hid (Grow.trans HG1.out GW6)
    have HOW := hid OW
    have z8 := GW6.size
    have hg6 := HWB.out.lt
    clear OW GW6
    obtain ⟨f0, f1, f2, f3, f4, f5, f6, f7, f8, f9, f10⟩ := KB1.out.open
    obtain ⟨g0, g1, g2, g3, g4, g5, g6, g7, g8, g9, g10⟩ := KB2.out.open
    have q1 := KB1.out.at
    have q2 := KB2.out.at
    unfold OpAt opZ at q1 q2
    dsimp only at q1 q2
    simp only [Nat.zero_add] at q1 q2
    obtain ⟨d0, d1, d2, d3, d4, d5, d6, d7, d8, d9, d10⟩ := q1
    obtain ⟨e0, e1, e2, e3, e4, e5, e6, e7, e8, e9, e10⟩ := q2
    have n1 : w.heap.size + 1 ≠ b := by omega
    have n2 : w.heap.size + 1 + 1 ≠ b := by omega
    have n3 : w.heap.size + 1 ≠ g := by omega
    have n4 : w.heap.size + 1 + 1 ≠ g := by omega
    go_region_held3 (fun w' => w'.cell? ⟨g, 0, none⟩ = some (.int .i64 rid) ∧ w'.cell? ⟨g, 1, none⟩ = some (.int .i64 rproc) ∧ w'.cell? ⟨g, 2, none⟩ = some (.int .i64 robj) ∧ w'.cell? ⟨g, 3, none⟩ = some (.int .i64 rkind) ∧ w'.cell? ⟨g, 4, none⟩ = some (.int .i64 rmeth) ∧ w'.cell? ⟨g, 5, none⟩ = some (.int .i64 rarg) ∧ w'.cell? ⟨g, 6, none⟩ = some (.int .i64 rsec) ∧ w'.cell? ⟨g, 7, none⟩ = some (.bool rdone) ∧ w'.cell? ⟨g, 8, none⟩ = some (.int .i64 rres) ∧ w'.cell? ⟨g, 9, none⟩ = some (.int .i64 rinv) ∧ w'.cell? ⟨g, 10, none⟩ = some (.int .i64 rret) ∧ w'.cell? ⟨b, off + i * 11, none⟩ = some (.int .i64 yid) ∧ w'.cell? ⟨b, off + i * 11 + 1, none⟩ = some (.int .i64 yproc) ∧ w'.cell? ⟨b, off + i * 11 + 2, none⟩ = some (.int .i64 yobj) ∧ w'.cell? ⟨b, off + i * 11 + 3, none⟩ = some (.int .i64 ykind) ∧ w'.cell? ⟨b, off + i * 11 + 4, none⟩ = some (.int .i64 ymeth) ∧ w'.cell? ⟨b, off + i * 11 + 5, none⟩ = some (.int .i64 yarg) ∧ w'.cell? ⟨b, off + i * 11 + 6, none⟩ = some (.int .i64 ysec) ∧ w'.cell? ⟨b, off + i * 11 + 7, none⟩ = some (.bool ydone) ∧ w'.cell? ⟨b, off + i * 11 + 8, none⟩ = some (.int .i64 yres) ∧ w'.cell? ⟨b, off + i * 11 + 9, none⟩ = some (.int .i64 yinv) ∧ w'.cell? ⟨b, off + i * 11 + 10, none⟩ = some (.int .i64 yret))
      (refine keepH ?_ ?_ <;> first
        | with_reducible assumption
        | (with_reducible refine drewBox (past_y ?_ (by omega)); with_reducible assumption)
        | (with_reducible refine drewAt (atPast_y ?_ (by omega)); with_reducible assumption)
        | (with_reducible refine drewBox (past_r (past_y ?_ (by omega)) (by omega)); with_reducible assumption)
        | (with_reducible refine drewAt (atPast_r (atPast_y ?_ (by omega)) (by omega)); with_reducible assumption))
      (fail)
    go_wp2_with fail
    obtain ⟨E1, E2, E3, E4⟩ := two_stores HG8.out KB1.out KB2.out (by omega) (by omega) (by omega) ⟨yid, yproc, yobj, ykind, ymeth, yarg, ysec, ydone, yres, yinv, yret⟩ ⟨rid, rproc, robj, rkind, rmeth, rarg, rsec, rdone, rres, rinv, rret⟩
    (try simp only [Exit.inBlock, Exit.then])
    refine bodyPost_ret (results_rows4 (fn := Try.f7) (p := 5) (q := 6) (s := 4) (u := 7) rfl _ _ (w.heap.size + 1) (w.heap.size + 1 + 1) 25 _ _ (0, 0) (0, 0) _ rfl E1 rfl E2 Try.underlying25 rfl (by kernel_rfl) (by kernel_rfl)) rfl ⟨_, rfl, ?_, E3⟩
    rw [List.length_set, HHN.out]
    refine own_less (own_same HOW.out (fun k hk => E4 k ?_ ?_)) ?_
    all_goals omega
end Go.Proofs.Ytljimlaalebmaaa
