/- What a process asks an object for: gen's ask. -/
import Derived.Test.YtlhgdbangnohjaaGChoose
import Derived.Deep.RegionHeld3
import Derived.Deep.Cut
namespace Go.Proofs.Ytlhgdbangnohjaa
open Go.RowKit
set_option linter.unusedVariables false
set_option linter.unusedSimpArgs false
theorem methodsL_len (k : Int) : 2 ≤ (methodsL k).length ∧ (methodsL k).length ≤ 3 := by
  unfold methodsL
  repeat' split
  all_goals simp
/-- The method that is drawn. -/
def methV (x k : Int) : Int := (methodsL k).getD (belowV x (methodsL k).length).toNat 0
/-- A cell of the whole's source pointer and the source, in a world. -/
structure SrcAt (w : World) (g gs : Nat) (x : Int) : Prop where
  ptr : w.cell? ⟨g, 6, none⟩ = some (.pointer (some ⟨gs, 0, none⟩))
  src : Src w gs x
  ne : g ≠ gs
theorem SrcAt.grow {w w' : World} {g gs : Nat} {x : Int} (h : SrcAt w g gs x) (hg : Grow w w') : SrcAt w' g gs x := ⟨hg.cell h.ptr, hg.heap h.src, h.ne⟩
theorem Only.cell {g : Nat} {w w' : World} (h : Only g w w') {b o : Nat} (hb : b ≠ g) {v : Value} (hc : w.cell? ⟨b, o, none⟩ = some v) : w'.cell? ⟨b, o, none⟩ = some v := by
  have := h.block b hb
  simp only [World.cell?, this] at hc ⊢
  exact hc
theorem SrcAt.next {w w' : World} {g gs : Nat} {x y : Int} (h : SrcAt w g gs x) (ho : Only gs w w') (hs : Src w' gs y) : SrcAt w' g gs y := ⟨ho.cell h.ne h.ptr, hs, h.ne⟩
theorem OpBox.only {w w' : World} {g p : Nat} {o : OpR} (h : OpBox w g o) (ho : Only p w w') (hne : g ≠ p) : OpBox w' g o := (ho.block g hne).trans h
/-- Of all that was there, only the source may have changed. -/
def Ahead (gs : Nat) (w w' : World) : Prop := w'.os = w.os ∧ w'.tape = w.tape ∧ w'.output = w.output ∧ w.heap.size ≤ w'.heap.size ∧ ∀ k, k < w.heap.size → k ≠ gs → w'.heap[k]? = w.heap[k]?
theorem Ahead.of_grow {gs : Nat} {w w' : World} (h : Grow w w') : Ahead gs w w' := ⟨h.os, h.tape, h.output, h.size, fun k hk _ => h.block k hk⟩
theorem Ahead.of_only {gs : Nat} {w w' : World} (h : Only gs w w') : Ahead gs w w' := ⟨h.os, h.tape, h.output, Nat.le_of_eq h.size.symm, fun k _ hk => h.block k hk⟩
theorem Ahead.trans {gs : Nat} {a b c : World} (h : Ahead gs a b) (k : Ahead gs b c) : Ahead gs a c :=
  ⟨k.1.trans h.1, k.2.1.trans h.2.1, k.2.2.1.trans h.2.2.1, Nat.le_trans h.2.2.2.1 k.2.2.2.1, fun j hj hg => (k.2.2.2.2 j (Nat.lt_of_lt_of_le hj h.2.2.2.1) hg).trans (h.2.2.2.2 j hj hg)⟩
theorem Ahead.set {gs : Nat} {a b : World} (h : Ahead gs a b) (g o : Nat) (hg : a.heap.size ≤ g) (u : Value) : Ahead gs a (b.setCell ⟨g, o, none⟩ u) :=
  ⟨h.1, h.2.1, h.2.2.1, by simpa using h.2.2.2.1, fun k hk hne => by rw [Below.heap_setCell _ _ _ _ (by show k ≠ g; omega)]; exact h.2.2.2.2 k hk hne⟩
theorem Ahead.drew {gs : Nat} {a b : World} (h : Ahead gs a b) : Ahead gs a b.drew := h
theorem Ahead.grow {gs : Nat} {a b c : World} (h : Ahead gs a b) (g : Grow b c) : Ahead gs a c := h.trans (.of_grow g)
theorem GAt.ahead {base : Nat} {w w' : World} {c : GenC} {R : GR} {G : GenW} {x : Int} (h : GAt base w c R G) (ho : Ahead R.gs w w') (hs : Src w' R.gs x) (hx : U64 x) : GAt base w' c R { G with x := x } := by
  obtain ⟨a1, a2, a3, a4, a5, a6, a7, a8, a9, a10⟩ := h.apart
  obtain ⟨-, -, -, hz, hb⟩ := ho
  exact {
    cells := (hb _ (heap_lt h.cells) a1).trans h.cells
    src := hs
    ux := hx
    free := (hb _ (heap_lt h.free) (fun e => a5 e.symm)).trans h.free
    freeN := h.freeN
    gone := (hb _ (heap_lt h.gone) (fun e => a6 e.symm)).trans h.gone
    goneN := h.goneN
    st := own_keep h.st (fun k hk => hb k (h.st.lt k hk).2 (fun e => by have e2 : R.gst = k := Option.some.inj hk; exact a7 (e.symm.trans e2.symm)))
    stN := h.stN
    rows := fun i hi => (h.rows i hi).keep (fun a n m e e0 => hb _ (h.rowd i hi a n m e e0).1 (h.rowd i hi a n m e e0).2.2.1)
    own := own_keep h.own (fun k hk => hb k (h.own.lt k hk).2 (h.lvd k hk).2.1)
    apart := h.apart
    lvd := h.lvd
    rowd := fun i hi a n m e e0 => by
      obtain ⟨h1, h2⟩ := h.rowd i hi a n m e e0
      exact ⟨Nat.lt_of_lt_of_le h1 hz, h2⟩
    lo := h.lo }
theorem heap_newG0 (w : World) (o : Obj) {g : Nat} (h : g = w.heap.size) : (w.alloc o).heap[g]? = some o := by
  subst h
  exact heap_new w o
theorem SrcAt.set {w : World} {g gs : Nat} {x : Int} (h : SrcAt w g gs x) (b o : Nat) (h1 : g ≠ b) (h2 : gs ≠ b) (u : Value) : SrcAt (w.setCell ⟨b, o, none⟩ u) g gs x :=
  ⟨(Only.cell (only_set w b o u) h1 h.ptr), heap_keep h.src ⟨b, o, none⟩ u h2, h.ne⟩
theorem OpBox.setArg {w : World} {g : Nat} {q : OpR} (h : OpBox w g q) (v : Int) : OpBox (w.setCell ⟨g, 5, none⟩ (.int .i64 v)) g { q with arg := v } := heap_setV h 5 _ _ rfl
theorem OpBox.setSec {w : World} {g : Nat} {q : OpR} (h : OpBox w g q) (v : Int) : OpBox (w.setCell ⟨g, 6, none⟩ (.int .i64 v)) g { q with sec := v } := heap_setV h 6 _ _ rfl
theorem results_rowG {P : Program} {fn : Func} {p : Tmp} {ty : TypeId} (h : fn.results = #[.cell p ty]) (tmps : Array Value) (w : World) (g : Nat) (t : TypeId) (cs : Array Value) (fr : Nat × Nat) (d : TypeDesc)
    (hp : tmps.getD p undef = .pointer (some ⟨g, 0, none⟩)) (hg : w.heap[g]? = some (.cells cs t fr))
    (hu : P.underlying ty = some d) (hd : (match d with | .struct _ | .array _ _ => true | _ => false) = true) (hi : (P.info? ty).map (·.size) = some cs.size) :
    (results fn tmps).run P w = .ok (.agg cs) w := by
  have hp' : tmps[p]?.getD undef = .pointer (some ⟨g, 0, none⟩) := by simpa using hp
  simp [results, h, hp', asAddr, Result.andThen, run_loadVar_row w g t ty cs fr d hg hu hd hi]
theorem Ahead.store {gs : Nat} {a w : World} (h : Ahead gs a w) (g : Nat) (hg : a.heap.size ≤ g) (o : OpR) : Ahead gs a (((((((((((w.setCell ⟨g, 0, none⟩ (.int .i64 o.id)).setCell ⟨g, 1, none⟩ (.int .i64 o.proc)).setCell ⟨g, 2, none⟩ (.int .i64 o.obj)).setCell ⟨g, 3, none⟩ (.int .i64 o.kind)).setCell ⟨g, 4, none⟩ (.int .i64 o.meth)).setCell ⟨g, 5, none⟩ (.int .i64 o.arg)).setCell ⟨g, 6, none⟩ (.int .i64 o.sec)).setCell ⟨g, 7, none⟩ (.bool o.done)).setCell ⟨g, 8, none⟩ (.int .i64 o.res)).setCell ⟨g, 9, none⟩ (.int .i64 o.inv)).setCell ⟨g, 10, none⟩ (.int .i64 o.ret)) := (((((((((((h.set _ _ hg _).set _ _ hg _).set _ _ hg _).set _ _ hg _).set _ _ hg _).set _ _ hg _).set _ _ hg _).set _ _ hg _).set _ _ hg _).set _ _ hg _).set _ _ hg _)
theorem SrcAt.store {w : World} {g gs : Nat} {x : Int} (h : SrcAt w g gs x) (b : Nat) (h1 : g ≠ b) (h2 : gs ≠ b) (o : OpR) : SrcAt (((((((((((w.setCell ⟨b, 0, none⟩ (.int .i64 o.id)).setCell ⟨b, 1, none⟩ (.int .i64 o.proc)).setCell ⟨b, 2, none⟩ (.int .i64 o.obj)).setCell ⟨b, 3, none⟩ (.int .i64 o.kind)).setCell ⟨b, 4, none⟩ (.int .i64 o.meth)).setCell ⟨b, 5, none⟩ (.int .i64 o.arg)).setCell ⟨b, 6, none⟩ (.int .i64 o.sec)).setCell ⟨b, 7, none⟩ (.bool o.done)).setCell ⟨b, 8, none⟩ (.int .i64 o.res)).setCell ⟨b, 9, none⟩ (.int .i64 o.inv)).setCell ⟨b, 10, none⟩ (.int .i64 o.ret)) g gs x := (((((((((((h.set _ _ h1 h2 _).set _ _ h1 h2 _).set _ _ h1 h2 _).set _ _ h1 h2 _).set _ _ h1 h2 _).set _ _ h1 h2 _).set _ _ h1 h2 _).set _ _ h1 h2 _).set _ _ h1 h2 _).set _ _ h1 h2 _).set _ _ h1 h2 _)
set_option maxRecDepth 100000 in
set_option maxHeartbeats 8000000 in
theorem ask_c (w : World) (g gs : Nat) (x : Int) (hS : SrcAt w g gs x) (hx : U64 x) (id p : Int) (o : Int) (h0 : 0 ≤ o) (h15 : o ≤ 15) (y : Int) (q : OpR) (hq : askL x id p o = (y, q)) :
    Calls Try.prog 40 #[.pointer (some ⟨g, 0, none⟩), .int .i64 id, .int .i64 p, .int .i64 o] w fun e w' => e = .returned (.agg #[.int .i64 q.id, .int .i64 q.proc, .int .i64 q.obj, .int .i64 q.kind, .int .i64 q.meth, .int .i64 q.arg, .int .i64 q.sec, .bool q.done, .int .i64 q.res, .int .i64 q.inv, .int .i64 q.ret]) ∧ Ahead gs w w' ∧ Src w' gs y := by
  have HK := hid (fun w => kind_c o h0 h15 w)
  have hk1 : 1 ≤ o % 6 + 1 := by omega
  have hk6 : o % 6 + 1 ≤ 6 := by omega
  have HM := hid (fun w => methods_c (o % 6 + 1) hk1 hk6 w)
  obtain ⟨hl2, hl3⟩ := methodsL_len (o % 6 + 1)
  have hgs := heap_lt hS.src
  have hgg := World.block_lt_of_cell? w _ hS.ptr
  have HS := hid hS
  obtain ⟨t, ht⟩ : ∃ t : Nat, belowV x (methodsL (o % 6 + 1)).length = (t : Int) := ⟨(belowV x (methodsL (o % 6 + 1)).length).toNat, by have := belowV_lo (x := x) (n := (methodsL (o % 6 + 1)).length) (by omega); omega⟩
  have htl : t < (methodsL (o % 6 + 1)).length := by have := belowV_hi (x := x) (n := (methodsL (o % 6 + 1)).length) (by omega); omega
  have HB := hid (fun w' (s : Src w' gs x) => Below_m x (methodsL (o % 6 + 1)).length gs w' hx (by omega) s)
  have hcell : ∀ w' : World, w'.heap[w.heap.size + 1 + 1]? = some (.cells (i64s (methodsL (o % 6 + 1))).toArray 3 (0, 0)) → w'.cell? ⟨w.heap.size + 1 + 1, t, none⟩ = some (.int .i64 ((methodsL (o % 6 + 1)).getD t 0)) := fun w' h => by
    rw [heap_cell h]
    simp [i64s, List.getD_eq_getElem?_getD, List.getElem?_eq_getElem htl]
  have HC := hid hcell
  unfold askL at hq
  rw [ht] at hq
  rw [belV_pos (by omega), belX_pos (by omega), ht] at HB
  simp only [Int.toNat_natCast] at hq
  clear hcell hS ht hl2
  generalize (methodsL (o % 6 + 1)).getD t 0 = m at *
  generalize hML : methodsL (o % 6 + 1) = ML at *
  clear hML
  generalize hN : ML.length = N at *
  generalize o % 6 + 1 = k at *
  have HBx := hid (fun (z : Int) (hz : U64 z) w' (s : Src w' gs z) => Below_m z 4 gs w' hz (by decide) s)
  have hy := nxt_u x
  have hy2 := nxt_u (nxt x)
  have HQ := hid hq
  clear hq
  have ht0 : (0 : Int) ≤ (t : Int) := by omega
  have ht1 : (t : Int) < (N : Int) := by omega
  go_enter Try.func40, Try.ntmps40
  go_wp2_with fail
  refine (HK.out _).mono ?_
  rintro e w1 ⟨rfl, rfl⟩
  go_wp2_with fail
  refine (HM.out _).mono ?_
  rintro e w1 ⟨rfl, rfl⟩
  go_upto_region 3 with fail
  have gW : Grow w (((w.alloc (.cells #[.int .i64 0, .int .i64 0, .int .i64 0, .int .i64 0, .int .i64 0, .int .i64 0, .int .i64 0, .bool false, .int .i64 0, .int .i64 0, .int .i64 0] 52)).alloc (.cells #[.int .i64 id, .int .i64 p, .int .i64 o, .int .i64 k, .int .i64 0, .int .i64 0, .int .i64 0, .bool false, .int .i64 0, .int .i64 0, .int .i64 0] 52)).alloc (.cells (i64s ML).toArray 3)) := Grow.trans (Grow.trans (Grow.alloc _ _) (Grow.alloc _ _)) (Grow.alloc _ _)
  have zb : OpBox (((w.alloc (.cells #[.int .i64 0, .int .i64 0, .int .i64 0, .int .i64 0, .int .i64 0, .int .i64 0, .int .i64 0, .bool false, .int .i64 0, .int .i64 0, .int .i64 0] 52)).alloc (.cells #[.int .i64 id, .int .i64 p, .int .i64 o, .int .i64 k, .int .i64 0, .int .i64 0, .int .i64 0, .bool false, .int .i64 0, .int .i64 0, .int .i64 0] 52)).alloc (.cells (i64s ML).toArray 3)) w.heap.size opZ := heap_alloc_keep (heap_alloc_keep (heap_new _ _) _) _
  have ob : OpBox (((w.alloc (.cells #[.int .i64 0, .int .i64 0, .int .i64 0, .int .i64 0, .int .i64 0, .int .i64 0, .int .i64 0, .bool false, .int .i64 0, .int .i64 0, .int .i64 0] 52)).alloc (.cells #[.int .i64 id, .int .i64 p, .int .i64 o, .int .i64 k, .int .i64 0, .int .i64 0, .int .i64 0, .bool false, .int .i64 0, .int .i64 0, .int .i64 0] 52)).alloc (.cells (i64s ML).toArray 3)) (w.heap.size + 1) ⟨id, p, o, k, 0, 0, 0, false, 0, 0, 0⟩ := heap_alloc_keep (heap_newG0 _ _ (by simp)) _
  have rb : (((w.alloc (.cells #[.int .i64 0, .int .i64 0, .int .i64 0, .int .i64 0, .int .i64 0, .int .i64 0, .int .i64 0, .bool false, .int .i64 0, .int .i64 0, .int .i64 0] 52)).alloc (.cells #[.int .i64 id, .int .i64 p, .int .i64 o, .int .i64 k, .int .i64 0, .int .i64 0, .int .i64 0, .bool false, .int .i64 0, .int .i64 0, .int .i64 0] 52)).alloc (.cells (i64s ML).toArray 3)).heap[w.heap.size + 1 + 1]? = some (.cells (i64s ML).toArray 3 (0, 0)) := heap_newG0 _ _ (by simp)
  have zW : (((w.alloc (.cells #[.int .i64 0, .int .i64 0, .int .i64 0, .int .i64 0, .int .i64 0, .int .i64 0, .int .i64 0, .bool false, .int .i64 0, .int .i64 0, .int .i64 0] 52)).alloc (.cells #[.int .i64 id, .int .i64 p, .int .i64 o, .int .i64 k, .int .i64 0, .int .i64 0, .int .i64 0, .bool false, .int .i64 0, .int .i64 0, .int .i64 0] 52)).alloc (.cells (i64s ML).toArray 3)).heap.size = w.heap.size + 1 + 1 + 1 := (by simp)
  generalize ((w.alloc (.cells #[.int .i64 0, .int .i64 0, .int .i64 0, .int .i64 0, .int .i64 0, .int .i64 0, .int .i64 0, .bool false, .int .i64 0, .int .i64 0, .int .i64 0] 52)).alloc (.cells #[.int .i64 id, .int .i64 p, .int .i64 o, .int .i64 k, .int .i64 0, .int .i64 0, .int .i64 0, .bool false, .int .i64 0, .int .i64 0, .int .i64 0] 52)).alloc (.cells (i64s ML).toArray 3) = W1 at *
  have S1 := HS.out.grow gW
  have A1 := Ahead.of_grow (gs := gs) gW
  have c6 := S1.ptr
  clear gW
  go_wp2_with fail
  refine (HB.out _ S1.src).mono ?_
  rintro e w2 ⟨rfl, b2, s2⟩
  have S2 := S1.next b2 s2
  have A2 := A1.trans (.of_only b2)
  have ob2 := ob.only b2 (by omega)
  have zb2 := zb.only b2 (by omega)
  have ct := HC.out w2 ((b2.block _ (by omega)).trans rb)
  have z2 := b2.size
  have c6 := S2.ptr
  have HOB := hid ob2
  have HZB := hid zb2
  have HS2 := hid S2
  have HA2 := hid A2
  have q0 := ob2.at
  unfold OpAt at q0
  dsimp only at q0
  simp only [Nat.zero_add] at q0
  obtain ⟨a0, a1, a2, a3, a4, a5, a6, a7, a8, a9, a10⟩ := q0
  obtain ⟨f0, f1, f2, f3, f4, f5, f6, f7, f8, f9, f10⟩ := ob2.open
  clear S1 S2 A1 A2 ob ob2 zb zb2 rb b2 s2
  go_upto_region 4 with fail
  have ob3 : OpBox (w2.setCell ⟨w.heap.size + 1, 4, none⟩ (.int .i64 m)) (w.heap.size + 1) ⟨id, p, o, k, m, 0, 0, false, 0, 0, 0⟩ := heap_setV HOB.out 4 _ _ rfl
  have zb3 : OpBox (w2.setCell ⟨w.heap.size + 1, 4, none⟩ (.int .i64 m)) w.heap.size opZ := heap_keep HZB.out ⟨w.heap.size + 1, 4, none⟩ _ (by show w.heap.size ≠ w.heap.size + 1; omega)
  have A3 := HA2.out.set (w.heap.size + 1) 4 (by omega) (.int .i64 m)
  have S3 : SrcAt (w2.setCell ⟨w.heap.size + 1, 4, none⟩ (.int .i64 m)) g gs (nxt x) := HS2.out.set (w.heap.size + 1) 4 (by omega) (by omega) _
  have z3 : (w2.setCell ⟨w.heap.size + 1, 4, none⟩ (.int .i64 m)).heap.size = w.heap.size + 1 + 1 + 1 := (by simp; omega)
  clear a0 a1 a2 a3 a4 a5 a6 a7 a8 a9 a10 f0 f1 f2 f3 f4 f5 f6 f7 f8 f9 f10 c6 ct HOB HZB HA2 HS2
  generalize w2.setCell ⟨w.heap.size + 1, 4, none⟩ (.int .i64 m) = W3 at *
  have HOB := hid ob3
  have HZB := hid zb3
  have HS3 := hid S3
  have HA3 := hid A3
  have c6 := S3.ptr
  have q0 := ob3.at
  unfold OpAt at q0
  dsimp only at q0
  simp only [Nat.zero_add] at q0
  obtain ⟨a0, a1, a2, a3, a4, a5, a6, a7, a8, a9, a10⟩ := q0
  obtain ⟨f0, f1, f2, f3, f4, f5, f6, f7, f8, f9, f10⟩ := ob3.open
  clear A3 S3 zb3 ob3 HB HC HM HK
  by_cases hm3 : m = 3
  · subst hm3
    rw [if_pos rfl] at HQ
    simp only [Prod.mk.injEq] at HQ
    have HQ2 := HQ.out
    obtain ⟨rfl, rfl⟩ := HQ2
    (try dsimp only)
    have HBq := HBx.out (nxt x) hy
    have HBr := HBx.out (nxt (nxt x)) hy2
    rw [belV_pos (by decide), belX_pos (by decide)] at HBq HBr
    obtain ⟨v1, hv1⟩ : ∃ v, v = belowV (nxt x) 4 := ⟨_, rfl⟩
    obtain ⟨v2, hv2⟩ : ∃ v, v = belowV (nxt (nxt x)) 4 := ⟨_, rfl⟩
    rw [← hv1] at HBq
    rw [← hv2] at HBr
    have HV1 := hid hv1
    have HV2 := hid hv2
    have HB1 := hid HBq
    have HB2 := hid HBr
    clear hv1 hv2 HBq HBr HBx
    have n1 : w.heap.size + 1 ≠ g := by omega
    go_wp2_with fail
    clear a0 a1 a2 a3 a4 a5 a6 a7 a8 a9 a10 f0 f1 f2 f3 f4 f5 f6 f7 f8 f9 f10
    go_region_held3 (fun w' => w'.cell? ⟨g, 6, none⟩ = some (.pointer (some ⟨gs, 0, none⟩))) (go_keep)
      ((first
        | (have := second; go_at_call 14; refine (HB2.out _ HS4.out.src).mono ?_
           rintro e w5 ⟨rfl, b5, s5⟩
           have S5 := HS4.out.next b5 s5
           have A5 := HA4.out.trans (.of_only b5)
           have ob5 := HOB4.out.only b5 (by omega)
           have zb5 := HZB4.out.only b5 (by omega)
           have HOB5 := hid ob5
           have HZB5 := hid zb5
           have HS5 := hid S5
           have HA5 := hid A5
           have z5 := b5.size
           clear c64
           have c65 := S5.ptr
           have q0 := ob5.at
           unfold OpAt at q0
           dsimp only at q0
           simp only [Nat.zero_add] at q0
           obtain ⟨a0, a1, a2, a3, a4, a5, a6, a7, a8, a9, a10⟩ := q0
           obtain ⟨f0, f1, f2, f3, f4, f5, f6, f7, f8, f9, f10⟩ := ob5.open
           clear ob5 zb5 S5 A5 b5 s5)
        | (go_at_call 14; refine (HB1.out W3.drew HS3.out.src).mono ?_
           rintro e w4 ⟨rfl, b4, s4⟩
           have S4 := (HS3.out.grow (Grow.drew _)).next b4 s4
           have A4 := (HA3.out.grow (Grow.drew _)).trans (.of_only b4)
           have ob4 := (HOB.out.grow (Grow.drew _)).only b4 (by omega)
           have zb4 := (HZB.out.grow (Grow.drew _)).only b4 (by omega)
           have HOB4 := hid ob4
           have HZB4 := hid zb4
           have HS4 := hid S4
           have HA4 := hid A4
           have z4 := b4.size
           have c64 := S4.ptr
           clear ob4 zb4 S4 A4 b4 s4
           have second := True.intro)))
    have ob6 := (HOB5.out.setArg v1).setSec v2
    dsimp only at ob6
    have zb6 : OpBox ((w5.setCell ⟨w.heap.size + 1, 5, none⟩ (.int .i64 v1)).setCell ⟨w.heap.size + 1, 6, none⟩ (.int .i64 v2)) w.heap.size opZ := heap_keep (heap_keep HZB5.out ⟨w.heap.size + 1, 5, none⟩ _ (by show w.heap.size ≠ w.heap.size + 1; omega)) ⟨w.heap.size + 1, 6, none⟩ _ (by show w.heap.size ≠ w.heap.size + 1; omega)
    have A6 := (HA5.out.set (w.heap.size + 1) 5 (by omega) (.int .i64 v1)).set (w.heap.size + 1) 6 (by omega) (.int .i64 v2)
    have S6 := (HS5.out.set (w.heap.size + 1) 5 (by omega) (by omega) (.int .i64 v1)).set (w.heap.size + 1) 6 (by omega) (by omega) (.int .i64 v2)
    clear a0 a1 a2 a3 a4 a5 a6 a7 a8 a9 a10 f0 f1 f2 f3 f4 f5 f6 f7 f8 f9 f10
    go_upto_region 14 with fail
    generalize (w5.setCell ⟨w.heap.size + 1, 5, none⟩ (.int .i64 v1)).setCell ⟨w.heap.size + 1, 6, none⟩ (.int .i64 v2) = V at *
    have q0 := ob6.at
    unfold OpAt at q0
    dsimp only at q0
    simp only [Nat.zero_add] at q0
    obtain ⟨a0, a1, a2, a3, a4, a5, a6, a7, a8, a9, a10⟩ := q0
    have zq := zb6.at
    unfold OpAt opZ at zq
    dsimp only at zq
    simp only [Nat.zero_add] at zq
    obtain ⟨y0, y1, y2, y3, y4, y5, y6, y7, y8, y9, y10⟩ := zq
    obtain ⟨x0, x1, x2, x3, x4, x5, x6, x7, x8, x9, x10⟩ := zb6.open
    have HZ6 := hid zb6
    have HA6 := hid A6
    have HS6 := hid S6
    clear ob6 zb6 A6 S6
    go_wp2_with fail
    (try simp only [Exit.inBlock, Exit.then])
    refine bodyPost_ret (results_rowG (fn := Try.f40) (p := 8) rfl _ _ w.heap.size 52 _ (0, 0) _ rfl (HZ6.out.store ⟨id, p, o, k, 3, v1, v2, false, 0, 0, 0⟩) Try.underlying52 rfl (by kernel_rfl)) rfl ⟨by rw [HV1.out, HV2.out], HA6.out.store w.heap.size (Nat.le_refl _) ⟨id, p, o, k, 3, v1, v2, false, 0, 0, 0⟩, (HS6.out.store w.heap.size (by omega) (by omega) ⟨id, p, o, k, 3, v1, v2, false, 0, 0, 0⟩).src⟩
  · rw [if_neg hm3] at HQ
    by_cases hm2 : m = 2 ∨ m = 6 ∨ m = 8 ∨ m = 10 ∨ m = 11 ∨ m = 12
    · rw [if_pos hm2] at HQ
      have hm3' : (m == 3) = false := by simpa using hm3
      have HBq := HBx.out (nxt x) hy
      rw [belV_pos (by decide), belX_pos (by decide)] at HBq
      have HB4 := hid HBq
      clear HBq HBx
      simp only [Prod.mk.injEq] at HQ
      have HQ2 := HQ.out
      obtain ⟨rfl, rfl⟩ := HQ2
      (try dsimp only)
      obtain ⟨v, hv⟩ : ∃ v, v = belowV (nxt x) 4 := ⟨_, rfl⟩
      rw [← hv] at HB4
      have HV := hid hv
      clear hv
      rcases hm2 with rfl | rfl | rfl | rfl | rfl | rfl
      · go_wp2_with fail
        refine (HB4.out _ HS3.out.src).mono ?_
        rintro e w4 ⟨rfl, b4, s4⟩
        have S4 := HS3.out.next b4 s4
        have A4 := HA3.out.trans (.of_only b4)
        have ob4 := HOB.out.only b4 (by omega)
        have zb4 := HZB.out.only b4 (by omega)
        have HOB4 := hid ob4
        have HZB4 := hid zb4
        have HS4 := hid S4
        have HA4 := hid A4
        have z4 := b4.size
        clear c6
        clear a0 a1 a2 a3 a4 a5 a6 a7 a8 a9 a10 f0 f1 f2 f3 f4 f5 f6 f7 f8 f9 f10
        have q0 := ob4.at
        unfold OpAt at q0
        dsimp only at q0
        simp only [Nat.zero_add] at q0
        obtain ⟨a0, a1, a2, a3, a4, a5, a6, a7, a8, a9, a10⟩ := q0
        obtain ⟨f0, f1, f2, f3, f4, f5, f6, f7, f8, f9, f10⟩ := ob4.open
        clear ob4 zb4 S4 A4 b4 s4
        go_upto_region 14 with fail
        have ob5 := HOB4.out.setArg v
        dsimp only at ob5
        have zb5 : OpBox (w4.setCell ⟨w.heap.size + 1, 5, none⟩ (.int .i64 v)) w.heap.size opZ := heap_keep HZB4.out ⟨w.heap.size + 1, 5, none⟩ _ (by show w.heap.size ≠ w.heap.size + 1; omega)
        have A5 := HA4.out.set (w.heap.size + 1) 5 (by omega) (.int .i64 v)
        have S5 := HS4.out.set (w.heap.size + 1) 5 (by omega) (by omega) (.int .i64 v)
        clear a0 a1 a2 a3 a4 a5 a6 a7 a8 a9 a10 f0 f1 f2 f3 f4 f5 f6 f7 f8 f9 f10
        generalize w4.setCell ⟨w.heap.size + 1, 5, none⟩ (.int .i64 v) = V at *
        have q0 := ob5.at
        unfold OpAt at q0
        dsimp only at q0
        simp only [Nat.zero_add] at q0
        obtain ⟨a0, a1, a2, a3, a4, a5, a6, a7, a8, a9, a10⟩ := q0
        have zq := zb5.at
        unfold OpAt opZ at zq
        dsimp only at zq
        simp only [Nat.zero_add] at zq
        obtain ⟨y0, y1, y2, y3, y4, y5, y6, y7, y8, y9, y10⟩ := zq
        obtain ⟨x0, x1, x2, x3, x4, x5, x6, x7, x8, x9, x10⟩ := zb5.open
        have HZ5 := hid zb5
        have HA5 := hid A5
        have HS5 := hid S5
        clear ob5 zb5 A5 S5
        go_wp2_with fail
        (try simp only [Exit.inBlock, Exit.then])
        exact bodyPost_ret (results_rowG (fn := Try.f40) (p := 8) rfl _ _ w.heap.size 52 _ (0, 0) _ rfl (HZ5.out.store ⟨id, p, o, k, 2, v, 0, false, 0, 0, 0⟩) Try.underlying52 rfl (by kernel_rfl)) rfl ⟨by rw [HV.out], HA5.out.store w.heap.size (Nat.le_refl _) ⟨id, p, o, k, 2, v, 0, false, 0, 0, 0⟩, (HS5.out.store w.heap.size (by omega) (by omega) ⟨id, p, o, k, 2, v, 0, false, 0, 0, 0⟩).src⟩
      · go_wp2_with fail
        refine (HB4.out _ HS3.out.src).mono ?_
        rintro e w4 ⟨rfl, b4, s4⟩
        have S4 := HS3.out.next b4 s4
        have A4 := HA3.out.trans (.of_only b4)
        have ob4 := HOB.out.only b4 (by omega)
        have zb4 := HZB.out.only b4 (by omega)
        have HOB4 := hid ob4
        have HZB4 := hid zb4
        have HS4 := hid S4
        have HA4 := hid A4
        have z4 := b4.size
        clear c6
        clear a0 a1 a2 a3 a4 a5 a6 a7 a8 a9 a10 f0 f1 f2 f3 f4 f5 f6 f7 f8 f9 f10
        have q0 := ob4.at
        unfold OpAt at q0
        dsimp only at q0
        simp only [Nat.zero_add] at q0
        obtain ⟨a0, a1, a2, a3, a4, a5, a6, a7, a8, a9, a10⟩ := q0
        obtain ⟨f0, f1, f2, f3, f4, f5, f6, f7, f8, f9, f10⟩ := ob4.open
        clear ob4 zb4 S4 A4 b4 s4
        go_upto_region 14 with fail
        have ob5 := HOB4.out.setArg v
        dsimp only at ob5
        have zb5 : OpBox (w4.setCell ⟨w.heap.size + 1, 5, none⟩ (.int .i64 v)) w.heap.size opZ := heap_keep HZB4.out ⟨w.heap.size + 1, 5, none⟩ _ (by show w.heap.size ≠ w.heap.size + 1; omega)
        have A5 := HA4.out.set (w.heap.size + 1) 5 (by omega) (.int .i64 v)
        have S5 := HS4.out.set (w.heap.size + 1) 5 (by omega) (by omega) (.int .i64 v)
        clear a0 a1 a2 a3 a4 a5 a6 a7 a8 a9 a10 f0 f1 f2 f3 f4 f5 f6 f7 f8 f9 f10
        generalize w4.setCell ⟨w.heap.size + 1, 5, none⟩ (.int .i64 v) = V at *
        have q0 := ob5.at
        unfold OpAt at q0
        dsimp only at q0
        simp only [Nat.zero_add] at q0
        obtain ⟨a0, a1, a2, a3, a4, a5, a6, a7, a8, a9, a10⟩ := q0
        have zq := zb5.at
        unfold OpAt opZ at zq
        dsimp only at zq
        simp only [Nat.zero_add] at zq
        obtain ⟨y0, y1, y2, y3, y4, y5, y6, y7, y8, y9, y10⟩ := zq
        obtain ⟨x0, x1, x2, x3, x4, x5, x6, x7, x8, x9, x10⟩ := zb5.open
        have HZ5 := hid zb5
        have HA5 := hid A5
        have HS5 := hid S5
        clear ob5 zb5 A5 S5
        go_wp2_with fail
        (try simp only [Exit.inBlock, Exit.then])
        exact bodyPost_ret (results_rowG (fn := Try.f40) (p := 8) rfl _ _ w.heap.size 52 _ (0, 0) _ rfl (HZ5.out.store ⟨id, p, o, k, 6, v, 0, false, 0, 0, 0⟩) Try.underlying52 rfl (by kernel_rfl)) rfl ⟨by rw [HV.out], HA5.out.store w.heap.size (Nat.le_refl _) ⟨id, p, o, k, 6, v, 0, false, 0, 0, 0⟩, (HS5.out.store w.heap.size (by omega) (by omega) ⟨id, p, o, k, 6, v, 0, false, 0, 0, 0⟩).src⟩
      · go_wp2_with fail
        refine (HB4.out _ HS3.out.src).mono ?_
        rintro e w4 ⟨rfl, b4, s4⟩
        have S4 := HS3.out.next b4 s4
        have A4 := HA3.out.trans (.of_only b4)
        have ob4 := HOB.out.only b4 (by omega)
        have zb4 := HZB.out.only b4 (by omega)
        have HOB4 := hid ob4
        have HZB4 := hid zb4
        have HS4 := hid S4
        have HA4 := hid A4
        have z4 := b4.size
        clear c6
        clear a0 a1 a2 a3 a4 a5 a6 a7 a8 a9 a10 f0 f1 f2 f3 f4 f5 f6 f7 f8 f9 f10
        have q0 := ob4.at
        unfold OpAt at q0
        dsimp only at q0
        simp only [Nat.zero_add] at q0
        obtain ⟨a0, a1, a2, a3, a4, a5, a6, a7, a8, a9, a10⟩ := q0
        obtain ⟨f0, f1, f2, f3, f4, f5, f6, f7, f8, f9, f10⟩ := ob4.open
        clear ob4 zb4 S4 A4 b4 s4
        go_upto_region 14 with fail
        have ob5 := HOB4.out.setArg v
        dsimp only at ob5
        have zb5 : OpBox (w4.setCell ⟨w.heap.size + 1, 5, none⟩ (.int .i64 v)) w.heap.size opZ := heap_keep HZB4.out ⟨w.heap.size + 1, 5, none⟩ _ (by show w.heap.size ≠ w.heap.size + 1; omega)
        have A5 := HA4.out.set (w.heap.size + 1) 5 (by omega) (.int .i64 v)
        have S5 := HS4.out.set (w.heap.size + 1) 5 (by omega) (by omega) (.int .i64 v)
        clear a0 a1 a2 a3 a4 a5 a6 a7 a8 a9 a10 f0 f1 f2 f3 f4 f5 f6 f7 f8 f9 f10
        generalize w4.setCell ⟨w.heap.size + 1, 5, none⟩ (.int .i64 v) = V at *
        have q0 := ob5.at
        unfold OpAt at q0
        dsimp only at q0
        simp only [Nat.zero_add] at q0
        obtain ⟨a0, a1, a2, a3, a4, a5, a6, a7, a8, a9, a10⟩ := q0
        have zq := zb5.at
        unfold OpAt opZ at zq
        dsimp only at zq
        simp only [Nat.zero_add] at zq
        obtain ⟨y0, y1, y2, y3, y4, y5, y6, y7, y8, y9, y10⟩ := zq
        obtain ⟨x0, x1, x2, x3, x4, x5, x6, x7, x8, x9, x10⟩ := zb5.open
        have HZ5 := hid zb5
        have HA5 := hid A5
        have HS5 := hid S5
        clear ob5 zb5 A5 S5
        go_wp2_with fail
        (try simp only [Exit.inBlock, Exit.then])
        exact bodyPost_ret (results_rowG (fn := Try.f40) (p := 8) rfl _ _ w.heap.size 52 _ (0, 0) _ rfl (HZ5.out.store ⟨id, p, o, k, 8, v, 0, false, 0, 0, 0⟩) Try.underlying52 rfl (by kernel_rfl)) rfl ⟨by rw [HV.out], HA5.out.store w.heap.size (Nat.le_refl _) ⟨id, p, o, k, 8, v, 0, false, 0, 0, 0⟩, (HS5.out.store w.heap.size (by omega) (by omega) ⟨id, p, o, k, 8, v, 0, false, 0, 0, 0⟩).src⟩
      · go_wp2_with fail
        refine (HB4.out _ HS3.out.src).mono ?_
        rintro e w4 ⟨rfl, b4, s4⟩
        have S4 := HS3.out.next b4 s4
        have A4 := HA3.out.trans (.of_only b4)
        have ob4 := HOB.out.only b4 (by omega)
        have zb4 := HZB.out.only b4 (by omega)
        have HOB4 := hid ob4
        have HZB4 := hid zb4
        have HS4 := hid S4
        have HA4 := hid A4
        have z4 := b4.size
        clear c6
        clear a0 a1 a2 a3 a4 a5 a6 a7 a8 a9 a10 f0 f1 f2 f3 f4 f5 f6 f7 f8 f9 f10
        have q0 := ob4.at
        unfold OpAt at q0
        dsimp only at q0
        simp only [Nat.zero_add] at q0
        obtain ⟨a0, a1, a2, a3, a4, a5, a6, a7, a8, a9, a10⟩ := q0
        obtain ⟨f0, f1, f2, f3, f4, f5, f6, f7, f8, f9, f10⟩ := ob4.open
        clear ob4 zb4 S4 A4 b4 s4
        go_upto_region 14 with fail
        have ob5 := HOB4.out.setArg v
        dsimp only at ob5
        have zb5 : OpBox (w4.setCell ⟨w.heap.size + 1, 5, none⟩ (.int .i64 v)) w.heap.size opZ := heap_keep HZB4.out ⟨w.heap.size + 1, 5, none⟩ _ (by show w.heap.size ≠ w.heap.size + 1; omega)
        have A5 := HA4.out.set (w.heap.size + 1) 5 (by omega) (.int .i64 v)
        have S5 := HS4.out.set (w.heap.size + 1) 5 (by omega) (by omega) (.int .i64 v)
        clear a0 a1 a2 a3 a4 a5 a6 a7 a8 a9 a10 f0 f1 f2 f3 f4 f5 f6 f7 f8 f9 f10
        generalize w4.setCell ⟨w.heap.size + 1, 5, none⟩ (.int .i64 v) = V at *
        have q0 := ob5.at
        unfold OpAt at q0
        dsimp only at q0
        simp only [Nat.zero_add] at q0
        obtain ⟨a0, a1, a2, a3, a4, a5, a6, a7, a8, a9, a10⟩ := q0
        have zq := zb5.at
        unfold OpAt opZ at zq
        dsimp only at zq
        simp only [Nat.zero_add] at zq
        obtain ⟨y0, y1, y2, y3, y4, y5, y6, y7, y8, y9, y10⟩ := zq
        obtain ⟨x0, x1, x2, x3, x4, x5, x6, x7, x8, x9, x10⟩ := zb5.open
        have HZ5 := hid zb5
        have HA5 := hid A5
        have HS5 := hid S5
        clear ob5 zb5 A5 S5
        go_wp2_with fail
        (try simp only [Exit.inBlock, Exit.then])
        exact bodyPost_ret (results_rowG (fn := Try.f40) (p := 8) rfl _ _ w.heap.size 52 _ (0, 0) _ rfl (HZ5.out.store ⟨id, p, o, k, 10, v, 0, false, 0, 0, 0⟩) Try.underlying52 rfl (by kernel_rfl)) rfl ⟨by rw [HV.out], HA5.out.store w.heap.size (Nat.le_refl _) ⟨id, p, o, k, 10, v, 0, false, 0, 0, 0⟩, (HS5.out.store w.heap.size (by omega) (by omega) ⟨id, p, o, k, 10, v, 0, false, 0, 0, 0⟩).src⟩
      · go_wp2_with fail
        refine (HB4.out _ HS3.out.src).mono ?_
        rintro e w4 ⟨rfl, b4, s4⟩
        have S4 := HS3.out.next b4 s4
        have A4 := HA3.out.trans (.of_only b4)
        have ob4 := HOB.out.only b4 (by omega)
        have zb4 := HZB.out.only b4 (by omega)
        have HOB4 := hid ob4
        have HZB4 := hid zb4
        have HS4 := hid S4
        have HA4 := hid A4
        have z4 := b4.size
        clear c6
        clear a0 a1 a2 a3 a4 a5 a6 a7 a8 a9 a10 f0 f1 f2 f3 f4 f5 f6 f7 f8 f9 f10
        have q0 := ob4.at
        unfold OpAt at q0
        dsimp only at q0
        simp only [Nat.zero_add] at q0
        obtain ⟨a0, a1, a2, a3, a4, a5, a6, a7, a8, a9, a10⟩ := q0
        obtain ⟨f0, f1, f2, f3, f4, f5, f6, f7, f8, f9, f10⟩ := ob4.open
        clear ob4 zb4 S4 A4 b4 s4
        go_upto_region 14 with fail
        have ob5 := HOB4.out.setArg v
        dsimp only at ob5
        have zb5 : OpBox (w4.setCell ⟨w.heap.size + 1, 5, none⟩ (.int .i64 v)) w.heap.size opZ := heap_keep HZB4.out ⟨w.heap.size + 1, 5, none⟩ _ (by show w.heap.size ≠ w.heap.size + 1; omega)
        have A5 := HA4.out.set (w.heap.size + 1) 5 (by omega) (.int .i64 v)
        have S5 := HS4.out.set (w.heap.size + 1) 5 (by omega) (by omega) (.int .i64 v)
        clear a0 a1 a2 a3 a4 a5 a6 a7 a8 a9 a10 f0 f1 f2 f3 f4 f5 f6 f7 f8 f9 f10
        generalize w4.setCell ⟨w.heap.size + 1, 5, none⟩ (.int .i64 v) = V at *
        have q0 := ob5.at
        unfold OpAt at q0
        dsimp only at q0
        simp only [Nat.zero_add] at q0
        obtain ⟨a0, a1, a2, a3, a4, a5, a6, a7, a8, a9, a10⟩ := q0
        have zq := zb5.at
        unfold OpAt opZ at zq
        dsimp only at zq
        simp only [Nat.zero_add] at zq
        obtain ⟨y0, y1, y2, y3, y4, y5, y6, y7, y8, y9, y10⟩ := zq
        obtain ⟨x0, x1, x2, x3, x4, x5, x6, x7, x8, x9, x10⟩ := zb5.open
        have HZ5 := hid zb5
        have HA5 := hid A5
        have HS5 := hid S5
        clear ob5 zb5 A5 S5
        go_wp2_with fail
        (try simp only [Exit.inBlock, Exit.then])
        exact bodyPost_ret (results_rowG (fn := Try.f40) (p := 8) rfl _ _ w.heap.size 52 _ (0, 0) _ rfl (HZ5.out.store ⟨id, p, o, k, 11, v, 0, false, 0, 0, 0⟩) Try.underlying52 rfl (by kernel_rfl)) rfl ⟨by rw [HV.out], HA5.out.store w.heap.size (Nat.le_refl _) ⟨id, p, o, k, 11, v, 0, false, 0, 0, 0⟩, (HS5.out.store w.heap.size (by omega) (by omega) ⟨id, p, o, k, 11, v, 0, false, 0, 0, 0⟩).src⟩
      · go_wp2_with fail
        refine (HB4.out _ HS3.out.src).mono ?_
        rintro e w4 ⟨rfl, b4, s4⟩
        have S4 := HS3.out.next b4 s4
        have A4 := HA3.out.trans (.of_only b4)
        have ob4 := HOB.out.only b4 (by omega)
        have zb4 := HZB.out.only b4 (by omega)
        have HOB4 := hid ob4
        have HZB4 := hid zb4
        have HS4 := hid S4
        have HA4 := hid A4
        have z4 := b4.size
        clear c6
        clear a0 a1 a2 a3 a4 a5 a6 a7 a8 a9 a10 f0 f1 f2 f3 f4 f5 f6 f7 f8 f9 f10
        have q0 := ob4.at
        unfold OpAt at q0
        dsimp only at q0
        simp only [Nat.zero_add] at q0
        obtain ⟨a0, a1, a2, a3, a4, a5, a6, a7, a8, a9, a10⟩ := q0
        obtain ⟨f0, f1, f2, f3, f4, f5, f6, f7, f8, f9, f10⟩ := ob4.open
        clear ob4 zb4 S4 A4 b4 s4
        go_upto_region 14 with fail
        have ob5 := HOB4.out.setArg v
        dsimp only at ob5
        have zb5 : OpBox (w4.setCell ⟨w.heap.size + 1, 5, none⟩ (.int .i64 v)) w.heap.size opZ := heap_keep HZB4.out ⟨w.heap.size + 1, 5, none⟩ _ (by show w.heap.size ≠ w.heap.size + 1; omega)
        have A5 := HA4.out.set (w.heap.size + 1) 5 (by omega) (.int .i64 v)
        have S5 := HS4.out.set (w.heap.size + 1) 5 (by omega) (by omega) (.int .i64 v)
        clear a0 a1 a2 a3 a4 a5 a6 a7 a8 a9 a10 f0 f1 f2 f3 f4 f5 f6 f7 f8 f9 f10
        generalize w4.setCell ⟨w.heap.size + 1, 5, none⟩ (.int .i64 v) = V at *
        have q0 := ob5.at
        unfold OpAt at q0
        dsimp only at q0
        simp only [Nat.zero_add] at q0
        obtain ⟨a0, a1, a2, a3, a4, a5, a6, a7, a8, a9, a10⟩ := q0
        have zq := zb5.at
        unfold OpAt opZ at zq
        dsimp only at zq
        simp only [Nat.zero_add] at zq
        obtain ⟨y0, y1, y2, y3, y4, y5, y6, y7, y8, y9, y10⟩ := zq
        obtain ⟨x0, x1, x2, x3, x4, x5, x6, x7, x8, x9, x10⟩ := zb5.open
        have HZ5 := hid zb5
        have HA5 := hid A5
        have HS5 := hid S5
        clear ob5 zb5 A5 S5
        go_wp2_with fail
        (try simp only [Exit.inBlock, Exit.then])
        exact bodyPost_ret (results_rowG (fn := Try.f40) (p := 8) rfl _ _ w.heap.size 52 _ (0, 0) _ rfl (HZ5.out.store ⟨id, p, o, k, 12, v, 0, false, 0, 0, 0⟩) Try.underlying52 rfl (by kernel_rfl)) rfl ⟨by rw [HV.out], HA5.out.store w.heap.size (Nat.le_refl _) ⟨id, p, o, k, 12, v, 0, false, 0, 0, 0⟩, (HS5.out.store w.heap.size (by omega) (by omega) ⟨id, p, o, k, 12, v, 0, false, 0, 0, 0⟩).src⟩
    · rw [if_neg hm2] at HQ
      simp only [Prod.mk.injEq] at HQ
      have HQ2 := HQ.out
      obtain ⟨rfl, rfl⟩ := HQ2
      (try dsimp only)
      have e3 : (m == 3) = false := by simpa using hm3
      have e2 : (m == 2) = false := by simp; omega
      have e6 : (m == 6) = false := by simp; omega
      have e8 : (m == 8) = false := by simp; omega
      have e10 : (m == 10) = false := by simp; omega
      have e11 : (m == 11) = false := by simp; omega
      have e12 : (m == 12) = false := by simp; omega
      have zb3 := HZB.out
      clear hm2 hm3
      have zq := zb3.at
      unfold OpAt opZ at zq
      dsimp only at zq
      simp only [Nat.zero_add] at zq
      obtain ⟨y0, y1, y2, y3, y4, y5, y6, y7, y8, y9, y10⟩ := zq
      obtain ⟨x0, x1, x2, x3, x4, x5, x6, x7, x8, x9, x10⟩ := zb3.open
      clear zb3
      go_wp2_with fail
      (try simp only [Exit.inBlock, Exit.then])
      refine bodyPost_ret (results_rowG (fn := Try.f40) (p := 8) rfl _ _ w.heap.size 52 _ (0, 0) _ rfl (HZB.out.store ⟨id, p, o, k, m, 0, 0, false, 0, 0, 0⟩) Try.underlying52 rfl (by kernel_rfl)) rfl ⟨rfl, HA3.out.store w.heap.size (Nat.le_refl _) ⟨id, p, o, k, m, 0, 0, false, 0, 0, 0⟩, (HS3.out.store w.heap.size (by omega) (by omega) ⟨id, p, o, k, m, 0, 0, false, 0, 0, 0⟩).src⟩
end Go.Proofs.Ytlhgdbangnohjaa
