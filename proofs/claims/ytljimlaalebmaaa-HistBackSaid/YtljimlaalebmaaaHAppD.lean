/- What hist.Apply tells of an edit: one that is deleted. -/
import Derived.Test.YtljimlaalebmaaaHAppC
import Derived.Test.YtljimlaalebmaaaHDelete
namespace Go.Proofs.Ytljimlaalebmaaa
open Go.RowKit
set_option linter.unusedVariables false
set_option linter.unusedSimpArgs false
theorem OpAt.past {w : World} {b o g2 : Nat} {y : OpR} (h : OpAt w b o y) (x : OpR) (hne : b ≠ g2) : OpAt (((((((((((w.setCell ⟨g2, 0, none⟩ (.int .i64 x.id)).setCell ⟨g2, 1, none⟩ (.int .i64 x.proc)).setCell ⟨g2, 2, none⟩ (.int .i64 x.obj)).setCell ⟨g2, 3, none⟩ (.int .i64 x.kind)).setCell ⟨g2, 4, none⟩ (.int .i64 x.meth)).setCell ⟨g2, 5, none⟩ (.int .i64 x.arg)).setCell ⟨g2, 6, none⟩ (.int .i64 x.sec)).setCell ⟨g2, 7, none⟩ (.bool x.done)).setCell ⟨g2, 8, none⟩ (.int .i64 x.res)).setCell ⟨g2, 9, none⟩ (.int .i64 x.inv)).setCell ⟨g2, 10, none⟩ (.int .i64 x.ret)) b o y := by
  unfold OpAt at h ⊢
  obtain ⟨h0, h1, h2, h3, h4, h5, h6, h7, h8, h9, h10⟩ := h
  have far : ∀ (w : World) (o o2 : Nat) (u : Value), (w.setCell ⟨g2, o2, none⟩ u).cell? ⟨b, o, none⟩ = w.cell? ⟨b, o, none⟩ := fun w o o2 u => World.cell?_setCell_far w _ _ u (fun e => hne e.symm)
  simp only [far]
  exact ⟨h0, h1, h2, h3, h4, h5, h6, h7, h8, h9, h10⟩
theorem atPast_Z {w : World} {b o g2 : Nat} {y : OpR} (h : OpAt w b o y) (hne : b ≠ g2) : OpAt (((((((((((w.setCell ⟨g2, 0, none⟩ (.int .i64 0)).setCell ⟨g2, 1, none⟩ (.int .i64 0)).setCell ⟨g2, 2, none⟩ (.int .i64 0)).setCell ⟨g2, 3, none⟩ (.int .i64 0)).setCell ⟨g2, 4, none⟩ (.int .i64 0)).setCell ⟨g2, 5, none⟩ (.int .i64 0)).setCell ⟨g2, 6, none⟩ (.int .i64 0)).setCell ⟨g2, 7, none⟩ (.bool false)).setCell ⟨g2, 8, none⟩ (.int .i64 0)).setCell ⟨g2, 9, none⟩ (.int .i64 0)).setCell ⟨g2, 10, none⟩ (.int .i64 0)) b o y := OpAt.past h opZ hne
theorem atPast_y {w : World} {b o g2 : Nat} {x : OpR} {yid yproc yobj ykind ymeth yarg ysec yres yinv yret : Int} {ydone : Bool} (h : OpAt w b o x) (hne : b ≠ g2) : OpAt (((((((((((w.setCell ⟨g2, 0, none⟩ (.int .i64 yid)).setCell ⟨g2, 1, none⟩ (.int .i64 yproc)).setCell ⟨g2, 2, none⟩ (.int .i64 yobj)).setCell ⟨g2, 3, none⟩ (.int .i64 ykind)).setCell ⟨g2, 4, none⟩ (.int .i64 ymeth)).setCell ⟨g2, 5, none⟩ (.int .i64 yarg)).setCell ⟨g2, 6, none⟩ (.int .i64 ysec)).setCell ⟨g2, 7, none⟩ (.bool ydone)).setCell ⟨g2, 8, none⟩ (.int .i64 yres)).setCell ⟨g2, 9, none⟩ (.int .i64 yinv)).setCell ⟨g2, 10, none⟩ (.int .i64 yret)) b o x := OpAt.past h ⟨yid, yproc, yobj, ykind, ymeth, yarg, ysec, ydone, yres, yinv, yret⟩ hne
theorem past_y {w : World} {g g2 : Nat} {o : OpR} {yid yproc yobj ykind ymeth yarg ysec yres yinv yret : Int} {ydone : Bool} (h : OpBox w g o) (hne : g ≠ g2) : OpBox (((((((((((w.setCell ⟨g2, 0, none⟩ (.int .i64 yid)).setCell ⟨g2, 1, none⟩ (.int .i64 yproc)).setCell ⟨g2, 2, none⟩ (.int .i64 yobj)).setCell ⟨g2, 3, none⟩ (.int .i64 ykind)).setCell ⟨g2, 4, none⟩ (.int .i64 ymeth)).setCell ⟨g2, 5, none⟩ (.int .i64 yarg)).setCell ⟨g2, 6, none⟩ (.int .i64 ysec)).setCell ⟨g2, 7, none⟩ (.bool ydone)).setCell ⟨g2, 8, none⟩ (.int .i64 yres)).setCell ⟨g2, 9, none⟩ (.int .i64 yinv)).setCell ⟨g2, 10, none⟩ (.int .i64 yret)) g o := OpBox.past h ⟨yid, yproc, yobj, ykind, ymeth, yarg, ysec, ydone, yres, yinv, yret⟩ hne
theorem keepD {w : World} {G3 b off : Nat} {yid yproc yobj ykind ymeth yarg ysec yres yinv yret : Int} {ydone : Bool} (h3 : OpBox w G3 opZ) (hy : OpAt w b off ⟨yid, yproc, yobj, ykind, ymeth, yarg, ysec, ydone, yres, yinv, yret⟩) :
    w.cell? ⟨G3, 0, none⟩ = some (.int .i64 0) ∧ w.cell? ⟨G3, 1, none⟩ = some (.int .i64 0) ∧ w.cell? ⟨G3, 2, none⟩ = some (.int .i64 0) ∧ w.cell? ⟨G3, 3, none⟩ = some (.int .i64 0) ∧ w.cell? ⟨G3, 4, none⟩ = some (.int .i64 0) ∧ w.cell? ⟨G3, 5, none⟩ = some (.int .i64 0) ∧ w.cell? ⟨G3, 6, none⟩ = some (.int .i64 0) ∧ w.cell? ⟨G3, 7, none⟩ = some (.bool false) ∧ w.cell? ⟨G3, 8, none⟩ = some (.int .i64 0) ∧ w.cell? ⟨G3, 9, none⟩ = some (.int .i64 0) ∧ w.cell? ⟨G3, 10, none⟩ = some (.int .i64 0) ∧ w.cell? ⟨b, off, none⟩ = some (.int .i64 yid) ∧ w.cell? ⟨b, off + 1, none⟩ = some (.int .i64 yproc) ∧ w.cell? ⟨b, off + 2, none⟩ = some (.int .i64 yobj) ∧ w.cell? ⟨b, off + 3, none⟩ = some (.int .i64 ykind) ∧ w.cell? ⟨b, off + 4, none⟩ = some (.int .i64 ymeth) ∧ w.cell? ⟨b, off + 5, none⟩ = some (.int .i64 yarg) ∧ w.cell? ⟨b, off + 6, none⟩ = some (.int .i64 ysec) ∧ w.cell? ⟨b, off + 7, none⟩ = some (.bool ydone) ∧ w.cell? ⟨b, off + 8, none⟩ = some (.int .i64 yres) ∧ w.cell? ⟨b, off + 9, none⟩ = some (.int .i64 yinv) ∧ w.cell? ⟨b, off + 10, none⟩ = some (.int .i64 yret) := by
  obtain ⟨a0, a1, a2, a3, a4, a5, a6, a7, a8, a9, a10⟩ := h3.at
  obtain ⟨b0, b1, b2, b3, b4, b5, b6, b7, b8, b9, b10⟩ := hy
  exact ⟨a0, a1, a2, a3, a4, a5, a6, a7, a8, a9, a10, b0, b1, b2, b3, b4, b5, b6, b7, b8, b9, b10⟩
set_option maxRecDepth 100000 in
set_option maxHeartbeats 4000000 in
/-- One that is deleted. -/
theorem appD_c (e y : OpR) (i : Nat) (p : Option Addr) (n cap : Nat) (w : World) (l : List OpR) (hv : Ops w (.slice p n cap) l) (hn : l.length = n) (hi : i < n) (hl : n ≤ 1000000) (hy : opAt l i = y) (hp : ∀ w' : World, Grow w w' → Calls Try.prog 14 #[.slice p n cap, .int .i64 e.id] w' fun en w'' => en = .returned (.tuple #[.int .i64 (i : Int), .bool true]) ∧ Grow w' w'') :
    Calls Try.prog 7 #[.slice p n cap, .agg #[.int .i64 2, .int .i64 e.id, .int .i64 e.proc, .int .i64 e.obj, .int .i64 e.kind, .int .i64 e.meth, .int .i64 e.arg, .int .i64 e.sec, .bool e.done, .int .i64 e.res, .int .i64 e.inv, .int .i64 e.ret]] w fun en w' => ∃ v', en = .returned (.tuple #[v', opV y, .agg #[.int .i64 0, .int .i64 0, .int .i64 0, .int .i64 0, .int .i64 0, .int .i64 0, .int .i64 0, .bool false, .int .i64 0, .int .i64 0, .int .i64 0], .int .i64 0]) ∧ w'.ownsRow w.heap.size 25 11 v' (cutL i l).length (opCells (cutL i l)) ∧ Grow w w' := by
  have HP := hid hp
  have HCL := hid (fun w' (g : Grow w w') => HClone_c l _ w' (hv.grow g) (by omega))
  obtain ⟨p', cap', e1, -, hc⟩ := hv.read
  rw [hn] at e1
  cases e1
  obtain ⟨b, off, rfl, hya⟩ := hc i (by omega)
  rw [hy] at hya
  have hbw : b < w.heap.size := World.block_lt_of_cell? w _ hya.1
  have HY := hid (fun w' (g : Grow w w') => hya.grow g)
  have HD := hid (fun v w base hv => Delete_c l i v w base hv (by omega) (by omega))
  clear hp hv hc hya hy hn
  unfold opV
  generalize cutL i l = z at *
  obtain ⟨id, proc, obj, kind, meth, arg, sec, done, res, inv, ret⟩ := e
  obtain ⟨yid, yproc, yobj, ykind, ymeth, yarg, ysec, ydone, yres, yinv, yret⟩ := y
  have hk0 : (0 : Int) ≤ (i : Int) := by omega
  have hk1 : (i : Int) < (n : Int) := by omega
  have hw1 : IntKind.i64.wrap ((i : Int) + 1) = (i : Int) + 1 := by rw [IntKind.wrap_i64]; omega
  go_enter Try.func7, Try.ntmps7
  go_wp2_with fail
  refine (HP.out _ (Grow.trans (Grow.trans (Grow.trans (Grow.alloc _ _) (Grow.alloc _ _)) (Grow.alloc _ _)) (Grow.alloc _ _))).mono ?_
  rintro en w1 ⟨rfl, b1⟩
  obtain ⟨B0, B1, B2, B3, G1⟩ := appBoxes w w1 2 ⟨id, proc, obj, kind, meth, arg, sec, done, res, inv, ret⟩ b1
  clear b1
  have z1 : w.heap.size + 1 + 1 + 1 < w1.heap.size := B3.lt
  have q0 := B0.at
  unfold OpAt at q0
  dsimp only at q0
  simp only [Nat.reduceAdd] at q0
  obtain ⟨ak, a0, a1, a2, a3, a4, a5, a6, a7, a8, a9, a10⟩ := q0
  have HB1 := hid B1
  have HB2 := hid B2
  have HB3 := hid B3
  have HG1 := hid G1
  clear B0 B1 B2 B3 G1
  have n1 : w.heap.size + 1 ≠ w.heap.size + 1 + 1 + 1 := by omega
  have n2 : w.heap.size + 1 + 1 ≠ w.heap.size + 1 + 1 + 1 := by omega
  have n3 : w.heap.size + 1 ≠ b := by omega
  have n4 : w.heap.size + 1 + 1 ≠ b := by omega
  go_wp2_with fail
  clear ak a0 a1 a2 a3 a4 a5 a6 a7 a8 a9 a10
  have X3d := HB3.out.grow (Grow.drew _)
  have XYd := HY.out _ (Grow.trans HG1.out (Grow.drew _))
  go_region_held3 (fun w' => w'.cell? ⟨w.heap.size + 1 + 1 + 1, 0, none⟩ = some (.int .i64 0) ∧ w'.cell? ⟨w.heap.size + 1 + 1 + 1, 1, none⟩ = some (.int .i64 0) ∧ w'.cell? ⟨w.heap.size + 1 + 1 + 1, 2, none⟩ = some (.int .i64 0) ∧ w'.cell? ⟨w.heap.size + 1 + 1 + 1, 3, none⟩ = some (.int .i64 0) ∧ w'.cell? ⟨w.heap.size + 1 + 1 + 1, 4, none⟩ = some (.int .i64 0) ∧ w'.cell? ⟨w.heap.size + 1 + 1 + 1, 5, none⟩ = some (.int .i64 0) ∧ w'.cell? ⟨w.heap.size + 1 + 1 + 1, 6, none⟩ = some (.int .i64 0) ∧ w'.cell? ⟨w.heap.size + 1 + 1 + 1, 7, none⟩ = some (.bool false) ∧ w'.cell? ⟨w.heap.size + 1 + 1 + 1, 8, none⟩ = some (.int .i64 0) ∧ w'.cell? ⟨w.heap.size + 1 + 1 + 1, 9, none⟩ = some (.int .i64 0) ∧ w'.cell? ⟨w.heap.size + 1 + 1 + 1, 10, none⟩ = some (.int .i64 0) ∧ w'.cell? ⟨b, off + i * 11, none⟩ = some (.int .i64 yid) ∧ w'.cell? ⟨b, off + i * 11 + 1, none⟩ = some (.int .i64 yproc) ∧ w'.cell? ⟨b, off + i * 11 + 2, none⟩ = some (.int .i64 yobj) ∧ w'.cell? ⟨b, off + i * 11 + 3, none⟩ = some (.int .i64 ykind) ∧ w'.cell? ⟨b, off + i * 11 + 4, none⟩ = some (.int .i64 ymeth) ∧ w'.cell? ⟨b, off + i * 11 + 5, none⟩ = some (.int .i64 yarg) ∧ w'.cell? ⟨b, off + i * 11 + 6, none⟩ = some (.int .i64 ysec) ∧ w'.cell? ⟨b, off + i * 11 + 7, none⟩ = some (.bool ydone) ∧ w'.cell? ⟨b, off + i * 11 + 8, none⟩ = some (.int .i64 yres) ∧ w'.cell? ⟨b, off + i * 11 + 9, none⟩ = some (.int .i64 yinv) ∧ w'.cell? ⟨b, off + i * 11 + 10, none⟩ = some (.int .i64 yret))
    (refine keepD ?_ ?_ <;> first
      | with_reducible assumption
      | (with_reducible refine past_y ?_ (by omega); with_reducible assumption)
      | (with_reducible refine atPast_y ?_ (by omega); with_reducible assumption)
      | (with_reducible refine past_opZ (past_y ?_ (by omega)) (by omega); with_reducible assumption)
      | (with_reducible refine atPast_Z (atPast_y ?_ (by omega)) (by omega); with_reducible assumption))
    ((first
      | (go_at_call 17; refine (HCL.out w1.drew (Grow.trans HG1.out (Grow.drew _))).mono ?_; rintro e w3 ⟨v3, rfl, o3, g3⟩; have Y3 := HB3.out.grow (Grow.trans (Grow.drew _) g3); have YL := HY.out _ (Grow.trans (Grow.trans HG1.out (Grow.drew _)) g3))
      | (go_at_call 16; refine (HD.out v3 w3 _ o3).mono ?_
         rintro e w4 ⟨v4, rfl, o4, m4, b4⟩
         have G4 := hid (Grow.moved (Grow.trans (Grow.drew _) g3) m4 (fun j hj => (o3.lt j hj).1))
         have Y3 := HB3.out.grow G4.out
         have YL := HY.out _ (Grow.trans HG1.out G4.out)
         have KB1 := hid (HB1.out.grow G4.out)
         have KB2 := hid (HB2.out.grow G4.out)
         obtain ⟨f0, f1, f2, f3, f4, f5, f6, f7, f8, f9, f10⟩ := KB1.out.open
         obtain ⟨g0, g1, g2, g3, g4, g5, g6, g7, g8, g9, g10⟩ := KB2.out.open
         have q1 := KB1.out.at
         have q2 := KB2.out.at
         unfold OpAt opZ at q1 q2
         dsimp only at q1 q2
         simp only [Nat.zero_add] at q1 q2
         obtain ⟨d0, d1, d2, d3, d4, d5, d6, d7, d8, d9, d10⟩ := q1
         obtain ⟨e0, e1, e2, e3, e4, e5, e6, e7, e8, e9, e10⟩ := q2)))
  have G4 := hid (Grow.trans HG1.out G4.out)
  go_wp2_with fail
  obtain ⟨E1, E2, E3, E4⟩ := two_stores0 G4.out KB1.out KB2.out (by omega) (by omega) (by omega) ⟨yid, yproc, yobj, ykind, ymeth, yarg, ysec, ydone, yres, yinv, yret⟩ opZ
  (try simp only [Exit.inBlock, Exit.then])
  refine bodyPost_ret (results_rows4 (fn := Try.f7) (p := 5) (q := 6) (s := 4) (u := 7) rfl _ _ (w.heap.size + 1) (w.heap.size + 1 + 1) 25 _ _ (0, 0) (0, 0) _ rfl E1 rfl E2 Try.underlying25 rfl (by kernel_rfl) (by kernel_rfl)) rfl ⟨_, rfl, own_less (own_same o4 (fun k hk => E4 k ?_ ?_)) ?_, E3⟩
  all_goals first | omega | (simp; omega) | (have hk2 := hk; (try simp at hk2); omega)
end Go.Proofs.Ytljimlaalebmaaa
