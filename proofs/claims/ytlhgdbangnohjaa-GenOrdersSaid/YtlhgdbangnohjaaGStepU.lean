/- What a step of gen writes, and what stays. -/
import Derived.Test.YtlhgdbangnohjaaGStep1
import Derived.Test.YtlhgdbangnohjaaMSet
import Derived.Test.YtlhgdbangnohjaaMStep
namespace Go.Proofs.Ytlhgdbangnohjaa
open Go.RowKit
set_option linter.unusedVariables false
set_option linter.unusedSimpArgs false
attribute [local go_sem ↓ high] run_imax
theorem askL_u (x id p o : Int) : U64 (askL x id p o).1 := by
  unfold askL
  dsimp only
  split
  · exact nxt_u _
  · split
    · exact nxt_u _
    · exact nxt_u _
theorem Ahead.cell {gs : Nat} {w w' : World} (h : Ahead gs w w') {b o : Nat} (hb : b ≠ gs) {v : Value} (hc : w.cell? ⟨b, o, none⟩ = some v) : w'.cell? ⟨b, o, none⟩ = some v := by
  have hl := World.block_lt_of_cell? w _ hc
  have := h.2.2.2.2 b hl hb
  simp only [World.cell?, this] at hc ⊢
  exact hc
theorem SrcAt.ahead {w w' : World} {g gs : Nat} {x y : Int} (h : SrcAt w g gs x) (ho : Ahead gs w w') (hs : Src w' gs y) : SrcAt w' g gs y := ⟨ho.cell h.ne h.ptr, hs, h.ne⟩
theorem OpBox.ahead {w w' : World} {g gs : Nat} {o : OpR} (h : OpBox w g o) (ho : Ahead gs w w') (hne : g ≠ gs) : OpBox w' g o := (ho.2.2.2.2 g h.lt hne).trans h
theorem Ahead.size {gs : Nat} {w w' : World} (h : Ahead gs w w') : w.heap.size ≤ w'.heap.size := h.2.2.2.1
theorem Ahead.below {base gs : Nat} {w w' : World} (h : Ahead gs w w') (hb : base ≤ gs) {g : Nat} (hg : base ≤ g) (hl : g < w.heap.size) : Below base w w' :=
  ⟨h.1, h.2.1, h.2.2.1, h.2.2.2.1, fun k hk => h.2.2.2.2 k (by omega) (by omega)⟩
theorem keepA {w : World} {g i j : Nat} {A B : Value} (h : w.cell? ⟨g, i, none⟩ = some A ∧ w.cell? ⟨g, j, none⟩ = some B) (o : Obj) : (w.alloc o).cell? ⟨g, i, none⟩ = some A ∧ (w.alloc o).cell? ⟨g, j, none⟩ = some B := ⟨(Grow.alloc w o).cell h.1, (Grow.alloc w o).cell h.2⟩
theorem keepDr {w : World} {g i j : Nat} {A B : Value} (h : w.cell? ⟨g, i, none⟩ = some A ∧ w.cell? ⟨g, j, none⟩ = some B) : w.drew.cell? ⟨g, i, none⟩ = some A ∧ w.drew.cell? ⟨g, j, none⟩ = some B := h
theorem cell_off {w : World} {b i j : Nat} {u v : Value} (h : w.cell? ⟨b, i, none⟩ = some v) (hne : i ≠ j) : (w.setCell ⟨b, j, none⟩ u).cell? ⟨b, i, none⟩ = some v := by
  rw [World.cell?_setCell_other]
  · exact h
  · intro e
    cases e
    exact hne rfl
theorem cell_drew {w : World} {a : Addr} {v : Value} (h : w.cell? a = some v) : w.drew.cell? a = some v := h
theorem cell_far {w : World} {b o p i : Nat} {u v : Value} (h : w.cell? ⟨p, i, none⟩ = some v) (hne : p ≠ b) : (w.setCell ⟨b, o, none⟩ u).cell? ⟨p, i, none⟩ = some v := Only.cell (only_set w b o u) hne h
theorem StOk.len {kd procs : Int} {k : Nat} {xs : List Int} (h : StOk kd procs k xs) (h1 : 1 ≤ kd) (h6 : kd ≤ 6) : xs.length ≤ k + 1 := by
  have : kd = 1 ∨ kd = 2 ∨ kd = 3 ∨ kd = 4 ∨ kd = 5 ∨ kd = 6 := by omega
  rcases this with e | e | e | e | e | e
  · obtain ⟨x, rfl, -⟩ := h.reg e
    simp
  · obtain ⟨x, rfl, -⟩ := h.cnt e
    simp
  · have := (h.row (.inl e)).1
    omega
  · have := (h.row (.inr e)).1
    omega
  · have := (h.mem e).2.2
    omega
  · rcases h.lock e with rfl | ⟨p, rfl, -⟩ <;> simp
theorem placeG_eq (c : GenC) (G : GenW) (qi qk qm qar qse : Int) (qd : Bool) (qre qin qrt : Int) (pp n : Nat) (F PT IV NA : Int) (XS : List Int) (B : Bool) (h1 : G.free.getD pp 0 = F) (h2 : imax G.now F + 1 + belowV G.x 4 = PT) (h3 : imax (F + 1) (PT - belowV (nxt G.x) 8) = IV)
    (h4 : doL (G.states.getD n []) ⟨qi, (pp : Int), (n : Int), qk, qm, qar, qse, qd, qre, IV, qrt⟩ = (XS, NA, B)) :
    placeG c G ⟨qi, (pp : Int), (n : Int), qk, qm, qar, qse, qd, qre, qin, qrt⟩ = if B = false then { G with x := nxt (nxt G.x), now := PT } else
      if belowV (nxt (nxt G.x)) 100 < c.pending then { x := nxt (nxt (nxt G.x)), free := G.free, gone := G.gone.set pp true, states := G.states.set n XS, now := PT, l := G.l ++ [⟨qi, (pp : Int), (n : Int), qk, qm, qar, qse, qd, qre, IV, qrt⟩] }
      else { x := nxt (nxt (nxt (nxt (nxt G.x)))), free := G.free.set pp (PT + 1 + belowV (nxt (nxt (nxt G.x))) 8), gone := G.gone, states := G.states.set n XS, now := PT,
             l := G.l ++ [if belowV (nxt (nxt (nxt (nxt G.x)))) 100 < c.wrong then ⟨qi, (pp : Int), (n : Int), qk, qm, qar, qse, true, wrongL ⟨qi, (pp : Int), (n : Int), qk, qm, qar, qse, true, NA, IV, PT + 1 + belowV (nxt (nxt (nxt G.x))) 8⟩, IV, PT + 1 + belowV (nxt (nxt (nxt G.x))) 8⟩ else ⟨qi, (pp : Int), (n : Int), qk, qm, qar, qse, true, NA, IV, PT + 1 + belowV (nxt (nxt (nxt G.x))) 8⟩] } := by
  unfold placeG
  simp only [Int.toNat_natCast, h1, h2, h3, h4]
theorem box_all {w : World} {g : Nat} {id proc obj kind meth arg sec : Int} {done : Bool} {res inv ret : Int} (h : OpBox w g ⟨id, proc, obj, kind, meth, arg, sec, done, res, inv, ret⟩) :
    w.cell? ⟨g, 0, none⟩ = some (.int .i64 id) ∧ w.cell? ⟨g, 1, none⟩ = some (.int .i64 proc) ∧ w.cell? ⟨g, 2, none⟩ = some (.int .i64 obj) ∧ w.cell? ⟨g, 3, none⟩ = some (.int .i64 kind) ∧ w.cell? ⟨g, 4, none⟩ = some (.int .i64 meth) ∧ w.cell? ⟨g, 5, none⟩ = some (.int .i64 arg) ∧ w.cell? ⟨g, 6, none⟩ = some (.int .i64 sec) ∧ w.cell? ⟨g, 7, none⟩ = some (.bool done) ∧ w.cell? ⟨g, 8, none⟩ = some (.int .i64 res) ∧ w.cell? ⟨g, 9, none⟩ = some (.int .i64 inv) ∧ w.cell? ⟨g, 10, none⟩ = some (.int .i64 ret) := by
  have q0 := h.at
  unfold OpAt at q0
  dsimp only at q0
  simp only [Nat.zero_add] at q0
  exact q0
theorem OpBox.grown {w w' : World} {g : Nat} {o : OpR} {row : Option Nat} (h : OpBox w g o) (hg : w.grownBy w' row) (hne : row ≠ some g) : OpBox w' g o := (hg.block g h.lt (fun e => hne e.symm)).trans h
theorem GAt.gcells {base : Nat} {w w' : World} {c : GenC} {R : GR} {G : GenW} (h : GAt base w c R G) (hg : w.grownBy w' R.lv.ownBlock) : w'.heap[R.g]? = some (.cells (wcells c R G.now) 65 (0, 0)) :=
  (hg.block R.g (heap_lt h.cells) (fun e => (h.lvd R.g e.symm).1 rfl)).trans h.cells
theorem GAt.pushed {base : Nat} {w w' : World} {c : GenC} {R : GR} {G : GenW} (h : GAt base w c R G) (o : OpR) {g cap : Nat} (ho : w'.ownsRow base 52 11 (.slice (some ⟨g, 0, none⟩) (G.l.length + 1) cap) (G.l.length + 1) (opCells G.l ++ o.row)) (hg : w.grownBy w' R.lv.ownBlock) (hat : R.lv.ownBlock = some g ∨ g = w.heap.size) :
    GAt base (w'.setCell ⟨R.g, 11, none⟩ (.slice (some ⟨g, 0, none⟩) (G.l.length + 1) cap)) c { R with lv := .slice (some ⟨g, 0, none⟩) (G.l.length + 1) cap } { G with l := G.l ++ [o] } := by
  refine h.push _ (G.l ++ [o]) ?_ hg ?_
  · rw [opCells_append, List.length_append, show opCells [o] = o.row by simp [opCells]]
    exact ho
  · intro k hk
    obtain rfl : g = k := Option.some.inj hk
    rcases hat with e | e
    · exact .inl e
    · exact .inr (Nat.le_of_eq e.symm)
theorem GAt.pushedB {base : Nat} {w0 w w' : World} {c : GenC} {R : GR} {G : GenW} (h : GAt base w c R G) (hb : Below base w0 w) (hg : w.grownBy w' R.lv.ownBlock) : Below base w0 w' :=
  Below.grown hb hg (Nat.le_trans h.lo.1 (Nat.le_of_lt (heap_lt h.cells))) (fun k hk => (h.own.lt k hk).1)
theorem svs_set {svs : List Value} {n : Nat} {v : Value} {P : Addr → Prop} (N : Nat) (h : ∀ i, i < N → ∀ a k m, svs.getD i (.slice none 0 0) = .slice (some a) k m → 0 < k → P a) (hv : ∀ a k m, v = .slice (some a) k m → 0 < k → P a) :
    ∀ i, i < N → ∀ a k m, (svs.set n v).getD i (.slice none 0 0) = .slice (some a) k m → 0 < k → P a := fun i hi a k m e e0 => by
  rw [List.getD_eq_getElem?_getD, List.getElem?_set] at e
  by_cases hn : n = i
  · rw [if_pos hn] at e
    split at e
    · exact hv a k m e e0
    · cases e
  · rw [if_neg hn, ← List.getD_eq_getElem?_getD] at e
    exact h i hi a k m e e0
/-- A step has come to an end. -/
def GStepPost (base : Nat) (w : World) (c : GenC) (g : Nat) (X : GenW) (e : Ending) (w' : World) : Prop := (∃ v, e = .returned v) ∧ (∃ R' : GR, R'.g = g ∧ GAt base w' c R' X) ∧ Below base w w'
theorem GStepPost.intro {base : Nat} {w : World} {c : GenC} {g : Nat} {X : GenW} {e : Ending} {w' : World} {v : Value} (R' : GR) (he : e = .returned v) (hg : R'.g = g) (hx : GAt base w' c R' X) (hb : Below base w w') : GStepPost base w c g X e w' := ⟨⟨v, he⟩, ⟨R', hg, hx⟩, hb⟩
theorem GAt.base_le {base : Nat} {w : World} {c : GenC} {R : GR} {G : GenW} (h : GAt base w c R G) : base ≤ w.heap.size := Nat.le_trans h.lo.1 (Nat.le_of_lt (heap_lt h.cells))
theorem own_turn {w : World} {base : Nat} {e : TypeId} {size : Nat} {v v' : Value} {n : Nat} {xs : List Value} (hv : v = v') (h : w.ownsRow base e size v n xs) : w.ownsRow base e size v' n xs := hv ▸ h
theorem cell_past {w : World} {g g2 i : Nat} {A : Value} (h : w.cell? ⟨g, i, none⟩ = some A) (o : OpR) (hne : g ≠ g2) : (((((((((((w.setCell ⟨g2, 0, none⟩ (.int .i64 o.id)).setCell ⟨g2, 1, none⟩ (.int .i64 o.proc)).setCell ⟨g2, 2, none⟩ (.int .i64 o.obj)).setCell ⟨g2, 3, none⟩ (.int .i64 o.kind)).setCell ⟨g2, 4, none⟩ (.int .i64 o.meth)).setCell ⟨g2, 5, none⟩ (.int .i64 o.arg)).setCell ⟨g2, 6, none⟩ (.int .i64 o.sec)).setCell ⟨g2, 7, none⟩ (.bool o.done)).setCell ⟨g2, 8, none⟩ (.int .i64 o.res)).setCell ⟨g2, 9, none⟩ (.int .i64 o.inv)).setCell ⟨g2, 10, none⟩ (.int .i64 o.ret)).cell? ⟨g, i, none⟩ = some A := by
  have s : ∀ (w : World) (k : Nat) (u : Value), w.cell? ⟨g, i, none⟩ = some A → (w.setCell ⟨g2, k, none⟩ u).cell? ⟨g, i, none⟩ = some A := fun w k u hw => Only.cell (only_set w g2 k u) hne hw
  exact s _ _ _ (s _ _ _ (s _ _ _ (s _ _ _ (s _ _ _ (s _ _ _ (s _ _ _ (s _ _ _ (s _ _ _ (s _ _ _ (s _ _ _ h))))))))))
theorem keepB {w : World} {g g2 i j : Nat} {A B : Value} (h : w.cell? ⟨g, i, none⟩ = some A ∧ w.cell? ⟨g, j, none⟩ = some B) (o : OpR) (hne : g ≠ g2) : (((((((((((w.setCell ⟨g2, 0, none⟩ (.int .i64 o.id)).setCell ⟨g2, 1, none⟩ (.int .i64 o.proc)).setCell ⟨g2, 2, none⟩ (.int .i64 o.obj)).setCell ⟨g2, 3, none⟩ (.int .i64 o.kind)).setCell ⟨g2, 4, none⟩ (.int .i64 o.meth)).setCell ⟨g2, 5, none⟩ (.int .i64 o.arg)).setCell ⟨g2, 6, none⟩ (.int .i64 o.sec)).setCell ⟨g2, 7, none⟩ (.bool o.done)).setCell ⟨g2, 8, none⟩ (.int .i64 o.res)).setCell ⟨g2, 9, none⟩ (.int .i64 o.inv)).setCell ⟨g2, 10, none⟩ (.int .i64 o.ret)).cell? ⟨g, i, none⟩ = some A ∧ (((((((((((w.setCell ⟨g2, 0, none⟩ (.int .i64 o.id)).setCell ⟨g2, 1, none⟩ (.int .i64 o.proc)).setCell ⟨g2, 2, none⟩ (.int .i64 o.obj)).setCell ⟨g2, 3, none⟩ (.int .i64 o.kind)).setCell ⟨g2, 4, none⟩ (.int .i64 o.meth)).setCell ⟨g2, 5, none⟩ (.int .i64 o.arg)).setCell ⟨g2, 6, none⟩ (.int .i64 o.sec)).setCell ⟨g2, 7, none⟩ (.bool o.done)).setCell ⟨g2, 8, none⟩ (.int .i64 o.res)).setCell ⟨g2, 9, none⟩ (.int .i64 o.inv)).setCell ⟨g2, 10, none⟩ (.int .i64 o.ret)).cell? ⟨g, j, none⟩ = some B := ⟨cell_past h.1 o hne, cell_past h.2 o hne⟩
/-- A store into a block that is none of the whole's. -/
theorem GAt.other {base : Nat} {w : World} {c : GenC} {R : GR} {G : GenW} (h : GAt base w c R G) (b o : Nat) (u : Value) (m1 : b ≠ R.g) (m2 : b ≠ R.gs) (m3 : b ≠ R.gf) (m4 : b ≠ R.gg) (m5 : b ≠ R.gst) (hl : R.lv.ownBlock ≠ some b)
    (hr : ∀ i, i < c.objects.toNat → ∀ a n m, R.svs.getD i (.slice none 0 0) = .slice (some a) n m → 0 < n → a.block ≠ b) : GAt base (w.setCell ⟨b, o, none⟩ u) c R G := by
  have ho := only_set w b o u
  exact {
    cells := (ho.block _ (Ne.symm m1)).trans h.cells
    src := (ho.block _ (Ne.symm m2)).trans h.src
    ux := h.ux
    free := (ho.block _ (Ne.symm m3)).trans h.free
    freeN := h.freeN
    gone := (ho.block _ (Ne.symm m4)).trans h.gone
    goneN := h.goneN
    st := h.stO ho (Ne.symm m5)
    stN := h.stN
    rows := fun i hi => (h.rows i hi).keep (fun a n m e e0 => ho.block _ (hr i hi a n m e e0))
    own := own_keep h.own (fun k hk => ho.block k (fun e => hl (by rw [hk, e])))
    apart := h.apart
    lvd := h.lvd
    rowd := h.rowdO ho
    lo := h.lo }
theorem zero_box (w : World) : OpBox (w.alloc (.cells #[.int .i64 0, .int .i64 0, .int .i64 0, .int .i64 0, .int .i64 0, .int .i64 0, .int .i64 0, .bool false, .int .i64 0, .int .i64 0, .int .i64 0] 52)) w.heap.size opZ := heap_new _ _
end Go.Proofs.Ytlhgdbangnohjaa
