/- The index: what is kept, and the call that adds. -/
import Derived.Test.YthmbnffddpnehaaIIdx
namespace Go.Proofs.Ythmbnffddpnehaa
open Go.RowKit
set_option linter.unusedVariables false
set_option linter.unusedSimpArgs false
def Tr.has (n : Nat) (y : It) : Tr → Prop
  | .nil => False
  | .node b x l r => (b = n ∧ x = y) ∨ l.has n y ∨ r.has n y
theorem Tr.has_turnL (n : Nat) (y : It) : ∀ T : Tr, T.has n y → T.turnL.has n y
  | .nil, h => h
  | .node b x l .nil, h => h
  | .node b x l (.node c z m r), h => by simp only [Tr.turnL, Tr.has] at h ⊢; grind
theorem Tr.has_turnR (n : Nat) (y : It) : ∀ T : Tr, T.has n y → T.turnR.has n y
  | .nil, h => h
  | .node b x .nil r, h => h
  | .node b x (.node c z l m) r, h => by simp only [Tr.turnR, Tr.has] at h ⊢; grind
theorem Tr.has_fixL (n : Nat) (y : It) : ∀ T : Tr, T.has n y → T.fixL.has n y
  | .nil, h => h
  | .node b x l r, h => by
    simp only [Tr.fixL]
    split
    · exact Tr.has_turnL n y _ h
    · exact h
theorem Tr.has_fixR (n : Nat) (y : It) : ∀ T : Tr, T.has n y → T.fixR.has n y
  | .nil, h => h
  | .node b x l r, h => by
    simp only [Tr.fixR]
    split
    · exact Tr.has_turnR n y _ h
    · exact h
theorem Tr.has_even (n : Nat) (y : It) (b : Nat) (x : It) (l r : Tr) (h : (b = n ∧ x = y) ∨ l.has n y ∨ r.has n y) : (Tr.even b x l r).has n y := by
  unfold Tr.even
  split
  · refine Tr.has_turnR n y _ ?_
    simp only [Tr.has]
    rcases h with h | h | h
    · exact .inl h
    · exact .inr (.inl (Tr.has_fixL n y l h))
    · exact .inr (.inr h)
  · split
    · refine Tr.has_turnL n y _ ?_
      simp only [Tr.has]
      rcases h with h | h | h
      · exact .inl h
      · exact .inr (.inl h)
      · exact .inr (.inr (Tr.has_fixR n y r h))
    · exact h
theorem Tr.has_ins (n : Nat) (y : It) : ∀ T : Tr, (T.ins n y).has n y
  | .nil => .inl ⟨rfl, rfl⟩
  | .node b x l r => by
    simp only [Tr.ins]
    split
    · exact Tr.has_even n y b x _ _ (.inr (.inl (Tr.has_ins n y l)))
    · exact Tr.has_even n y b x _ _ (.inr (.inr (Tr.has_ins n y r)))
theorem Tr.In.has {w : World} {n : Nat} {y : It} : ∀ {T : Tr}, T.In w → T.has n y → ∃ la hi pl pr, NodeAt w n y la hi pl pr
  | .nil, _, h => h.elim
  | .node b x l r, ⟨h1, h2, h3⟩, h => by
    rcases h with ⟨rfl, rfl⟩ | h | h
    · exact ⟨_, _, _, _, h1⟩
    · exact h2.has h
    · exact h3.has h
/-- Which block a change of the index leaves alone. -/
def otherI (o : Obj) : Prop := match o with
  | .cells _ e _ => e ≠ 69 ∧ e ≠ 84
  | .map _ _ => False
  | _ => True
/-- A change of an index. -/
structure Turn (B : Nat) (w w' : World) : Prop where
  below : Below B w w'
  keep : ∀ (k : Nat) (o : Obj), w.heap[k]? = some o → otherI o → w'.heap[k]? = some o
theorem Turn.refl (B : Nat) (w : World) : Turn B w w := ⟨Below.refl _ _, fun _ _ h _ => h⟩
theorem Turn.trans {B : Nat} {a b c : World} (h : Turn B a b) (k : Turn B b c) : Turn B a c := ⟨h.below.trans k.below, fun j o hj ho => k.keep j o (h.keep j o hj ho) ho⟩
theorem Turn.of_grow {B : Nat} {a b : World} (h : Grow a b) (hB : B ≤ a.heap.size) : Turn B a b := ⟨Grow.below h hB, fun j o hj _ => h.heap hj⟩
/-- What is found by a number. -/
def look (L : List It) (k : Int) : Option It := L.find? (fun x => x.id == k)
structure IxAt (w : World) (B p : Nat) (L : List It) (nx : Int) (N : Nat) (T : Tr) (mb : Nat) : Prop where
  box : w.heap[p]? = some (.cells #[T.ptr, .map (some mb), .int .i64 nx] 69 (0, 0))
  tree : T.In w
  items : T.items = L
  nodup : T.blocks.Nodup
  bal : T.Bal
  map : MapAt w mb N L.length (fun k => (look L k).map It.f)
  rises : Rises L
  ids : ∀ x ∈ L, 1 ≤ x.id ∧ x.id ≤ nx
  fits : ∀ x ∈ L, -9223372036854775808 ≤ x.f ∧ x.f ≤ x.t ∧ x.t ≤ 9223372036854775807
  apart : Tr.Apart L
  basep : B ≤ p
  basem : B ≤ mb
  baset : ∀ b ∈ T.blocks, B ≤ b
theorem Tr.In.kind {w : World} : ∀ {T : Tr}, T.In w → ∀ b ∈ T.blocks, ∃ cs, w.heap[b]? = some (.cells cs 84 (0, 0))
  | .nil, _, b, hb => by simp [Tr.blocks] at hb
  | .node c x l r, ⟨h, hl, hr⟩, b, hb => by
    simp only [Tr.blocks, List.mem_cons, List.mem_append] at hb
    rcases hb with rfl | hb | hb
    · exact ⟨_, h⟩
    · exact hl.kind b hb
    · exact hr.kind b hb
variable {w w' : World} {B p : Nat} {L : List It} {nx : Int} {N : Nat} {T : Tr} {mb : Nat}
theorem IxAt.off (h : IxAt w B p L nx N T mb) : p ∉ T.blocks ∧ mb ∉ T.blocks ∧ p ≠ mb := by
  refine ⟨fun e => ?_, fun e => ?_, fun e => ?_⟩
  · obtain ⟨cs, hc⟩ := h.tree.kind p e
    rw [h.box] at hc
    injection hc with hc
    injection hc with _ e2 _
    exact absurd e2 (by decide)
  · obtain ⟨cs, hc⟩ := h.tree.kind mb e
    obtain ⟨es, clock, hm⟩ := h.map.obj
    rw [hm] at hc
    cases hc
  · obtain ⟨es, clock, hm⟩ := h.map.obj
    rw [← e, h.box] at hm
    cases hm
/-- It lies in every world with the same blocks of its kinds. -/
theorem IxAt.keep (h : IxAt w B p L nx N T mb) (hk : ∀ (k : Nat) (o : Obj), w.heap[k]? = some o → ¬ otherI o → w'.heap[k]? = some o) : IxAt w' B p L nx N T mb where
  box := hk _ _ h.box (by simp [otherI])
  tree := h.tree.kept fun b hb => by
    obtain ⟨cs, hc⟩ := h.tree.kind b hb
    rw [hc]
    exact hk _ _ hc (by simp [otherI])
  items := h.items
  nodup := h.nodup
  bal := h.bal
  map := by
    obtain ⟨es, clock, hm⟩ := h.map.obj
    exact h.map.of_block ((hk _ _ hm (by simp [otherI])).trans hm.symm)
  rises := h.rises
  ids := h.ids
  fits := h.fits
  apart := h.apart
  basep := h.basep
  basem := h.basem
  baset := h.baset
theorem IxAt.grow (h : IxAt w B p L nx N T mb) (g : Grow w w') : IxAt w' B p L nx N T mb := h.keep fun k o hk _ => g.heap hk
theorem IxAt.size (h : IxAt w B p L nx N T mb) : T.size = L.length := by rw [← Tr.len_items, h.items]
theorem look_none {L : List It} {k : Int} (h : ∀ x ∈ L, x.id ≠ k) : look L k = none := by
  unfold look
  rw [List.find?_eq_none]
  intro x hx
  simpa using h x hx
theorem look_addL (y : It) (L : List It) (h : ∀ x ∈ L, x.id ≠ y.id) (k : Int) : look (addL y L) k = if y.id = k then some y else look L k := by
  induction L with
  | nil => by_cases e : y.id = k <;> simp [look, addL, e]
  | cons x r ih =>
    have hx := h x (by simp)
    have ih := ih (fun u hu => h u (List.mem_cons_of_mem _ hu))
    simp only [addL]
    unfold look at ih ⊢
    split
    · by_cases e : y.id = k <;> simp [List.find?_cons, e]
    · by_cases e2 : x.id = k
      · have e3 : ¬ y.id = k := by omega
        simp [List.find?_cons, e2, e3]
      · have e4 : (x.id == k) = false := by simpa using e2
        simp only [List.find?_cons, e4, ih]
theorem apart_addL {y : It} {L : List It} (h : Tr.Apart L) (hy : ∀ x ∈ L, x.id ≠ y.id) : Tr.Apart (addL y L) := by
  induction L with
  | nil => simp [addL, Tr.Apart]
  | cons x r ih =>
    unfold Tr.Apart at h ih ⊢
    rw [List.pairwise_cons] at h
    simp only [addL]
    split
    · exact List.pairwise_cons.2 ⟨fun z hz e => hy z hz e.symm, List.pairwise_cons.2 h⟩
    · refine List.pairwise_cons.2 ⟨fun z hz => ?_, ih h.2 (fun u hu => hy u (List.mem_cons_of_mem _ hu))⟩
      rcases (mem_addL _ _ _).1 hz with rfl | hz
      · exact hy x (by simp)
      · exact h.1 z hz
/-- What Add leaves. -/
def AddPost (B p : Nat) (L : List It) (nx : Int) (N : Nat) (f t : Int) (v : ByteArray) (w : World) (e : Ending) (w' : World) : Prop :=
  if t < f then e = .returned (.tuple #[.int .i64 0, .int .i64 31]) ∧ w' = w
  else e = .returned (.tuple #[.int .i64 (nx + 1), .int .i64 0]) ∧ (∃ T' mb', IxAt w' B p (addL ⟨nx + 1, f, t, v⟩ L) (nx + 1) (N + 1) T' mb') ∧ Turn B w w'
set_option maxRecDepth 100000 in
set_option maxHeartbeats 2000000 in
theorem AddBad_c (f t : Int) (v : ByteArray) (h : IxAt w B p L nx N T mb) (hft : t < f) : Calls Try.prog 30 #[.pointer (some ⟨p, 0, none⟩), .int .i64 f, .int .i64 t, .string v] w (AddPost B p L nx N f t v w) := by
  have c1 : w.cell? ⟨p, 1, none⟩ = some (.map (some mb)) := by rw [heap_cell h.box]; rfl
  have hp := heap_lt h.box
  have HF := hid hft
  have hmn : ∀ (w : World) (r : Option Nat), (binOp .eql 67 (.map r) (.map none)).run Try.prog w = .ok (.bool r.isNone) w := fun w r => run_eql_map_nil w 67 3 3 r Try.underlying67
  clear h
  go_enter Try.func30, Try.ntmps30
  go_wp2_with fail
  go_ret2
  unfold AddPost
  rw [if_pos HF.out]
  exact ⟨rfl, rfl⟩
set_option maxRecDepth 100000 in
set_option maxHeartbeats 2000000 in
theorem AddGood_c (f t : Int) (v : ByteArray) (h : IxAt w B p L nx N T mb) (hft : ¬ t < f) (hL : L.length ≤ 500000) (hn : N ≤ 500000) (h0 : 0 ≤ nx) (h1 : nx ≤ 500000) (hf : -9223372036854775808 ≤ f) (ht : t ≤ 9223372036854775807) :
    Calls Try.prog 30 #[.pointer (some ⟨p, 0, none⟩), .int .i64 f, .int .i64 t, .string v] w (AddPost B p L nx N f t v w) := by
  have hold := h
  have hq := h.off
  have c0 : w.cell? ⟨p, 0, none⟩ = some T.ptr := by rw [heap_cell h.box]; rfl
  have c1 : w.cell? ⟨p, 1, none⟩ = some (.map (some mb)) := by rw [heap_cell h.box]; rfl
  have c2 : w.cell? ⟨p, 2, none⟩ = some (.int .i64 nx) := by rw [heap_cell h.box]; rfl
  have q2 := heap_frozen h.box 2 (by omega)
  have hp := heap_lt h.box
  have hw : IntKind.i64.wrap (nx + 1) = nx + 1 := IntWalk.i64_in _ (by omega)
  have HO := hid hold
  have HF := hid (And.intro hft (And.intro hf ht))
  have HQ := hid hq
  have hfresh : w.heap.size ∉ T.blocks := fun e => by have := h.tree.lt _ e; omega
  have HFR := hid hfresh
  have hsz := h.size
  have HI := hid (fun w' a1 a2 => insert_c w.heap.size ⟨nx + 1, f, t, v⟩ 0 0 T w' a1 a2 hfresh h.nodup (by omega))
  obtain ⟨u, hu⟩ := T.ptr_form
  obtain ⟨ui, hui⟩ := (T.ins w.heap.size ⟨nx + 1, f, t, v⟩).ptr_form
  have HU := hid (And.intro hu hui)
  rw [hu] at HI c0
  have HB := hid (And.intro hL (And.intro hn (And.intro h0 h1)))
  have hmn : ∀ (w : World) (r : Option Nat), (binOp .eql 67 (.map r) (.map none)).run Try.prog w = .ok (.bool r.isNone) w := fun w r => run_eql_map_nil w 67 3 3 r Try.underlying67
  have hpw : ¬ w.heap.size = p := by omega
  have hpw2 : ¬ p = w.heap.size := by omega
  clear h hold hq hfresh hsz hu hui hL hn h0 h1 hf ht
  go_enter Try.func30, Try.ntmps30
  go_wp2_with fail
  have sz0 : (w.setCell ⟨p, 2, none⟩ (.int .i64 (nx + 1))).heap.size = w.heap.size := by simp
  have N6 : NodeAt ((w.setCell ⟨p, 2, none⟩ (.int .i64 (nx + 1))).alloc (.cells #[.int .i64 f, .int .i64 t, .string v, .int .i64 (nx + 1), .int .i64 0, .int .i64 0, .pointer none, .pointer none] 84)) w.heap.size ⟨nx + 1, f, t, v⟩ 0 0 (.pointer none) (.pointer none) := by
    have := heap_new (w.setCell ⟨p, 2, none⟩ (.int .i64 (nx + 1))) (.cells #[.int .i64 f, .int .i64 t, .string v, .int .i64 (nx + 1), .int .i64 0, .int .i64 0, .pointer none, .pointer none] 84)
    rw [sz0] at this
    exact this
  have hk6 : ∀ k, k < w.heap.size → k ≠ p → ((w.setCell ⟨p, 2, none⟩ (.int .i64 (nx + 1))).alloc (.cells #[.int .i64 f, .int .i64 t, .string v, .int .i64 (nx + 1), .int .i64 0, .int .i64 0, .pointer none, .pointer none] 84)).heap[k]? = w.heap[k]? := fun k hk hne => by
    rw [Below.heap_alloc _ _ k (by rw [sz0]; exact hk), Below.heap_setCell _ _ _ _ hne]
  have B6 : ((w.setCell ⟨p, 2, none⟩ (.int .i64 (nx + 1))).alloc (.cells #[.int .i64 f, .int .i64 t, .string v, .int .i64 (nx + 1), .int .i64 0, .int .i64 0, .pointer none, .pointer none] 84)).heap[p]? = some (.cells #[T.ptr, .map (some mb), .int .i64 (nx + 1)] 69 (0, 0)) := heap_alloc_keep (heap_set HO.out.box 2 _) _
  have T6 := HO.out.tree.kept (fun b hb => hk6 b (HO.out.tree.lt b hb) (fun e => HQ.out.1 (e ▸ hb)))
  have Z6 : ((w.setCell ⟨p, 2, none⟩ (.int .i64 (nx + 1))).alloc (.cells #[.int .i64 f, .int .i64 t, .string v, .int .i64 (nx + 1), .int .i64 0, .int .i64 0, .pointer none, .pointer none] 84)).heap.size = w.heap.size + 1 := by simp
  have O6 : w.os = ((w.setCell ⟨p, 2, none⟩ (.int .i64 (nx + 1))).alloc (.cells #[.int .i64 f, .int .i64 t, .string v, .int .i64 (nx + 1), .int .i64 0, .int .i64 0, .pointer none, .pointer none] 84)).os ∧ w.tape = ((w.setCell ⟨p, 2, none⟩ (.int .i64 (nx + 1))).alloc (.cells #[.int .i64 f, .int .i64 t, .string v, .int .i64 (nx + 1), .int .i64 0, .int .i64 0, .pointer none, .pointer none] 84)).tape ∧ w.output = ((w.setCell ⟨p, 2, none⟩ (.int .i64 (nx + 1))).alloc (.cells #[.int .i64 f, .int .i64 t, .string v, .int .i64 (nx + 1), .int .i64 0, .int .i64 0, .pointer none, .pointer none] 84)).output := ⟨rfl, rfl, rfl⟩
  have HIC := hid (HI.out _ T6 N6)
  have M6 := HO.out.map.of_block (w' := ((w.setCell ⟨p, 2, none⟩ (.int .i64 (nx + 1))).alloc (.cells #[.int .i64 f, .int .i64 t, .string v, .int .i64 (nx + 1), .int .i64 0, .int .i64 0, .pointer none, .pointer none] 84))) (hk6 mb HO.out.map.lt (fun e => HQ.out.2.2 e.symm))
  have HX6 := hid (And.intro hk6 (And.intro B6 (And.intro Z6 (And.intro O6 M6))))
  clear N6 hk6 B6 T6 Z6 O6 HI c0 c1 c2 q2 sz0 M6
  generalize (w.setCell ⟨p, 2, none⟩ (.int .i64 (nx + 1))).alloc (.cells #[.int .i64 f, .int .i64 t, .string v, .int .i64 (nx + 1), .int .i64 0, .int .i64 0, .pointer none, .pointer none] 84) = w6 at *
  have hp6 : p < w6.heap.size := by rw [HX6.out.2.2.1]; omega
  refine HIC.out.mono ?_
  rintro e w7 ⟨rfl, h7, k7⟩
  rw [HU.out.2]
  have B7 := k7.node HX6.out.2.1 (by simp; exact ⟨hpw2, HQ.out.1⟩)
  obtain ⟨la7, hi7, pl7, pr7, N7⟩ := h7.has (Tr.has_ins w.heap.size ⟨nx + 1, f, t, v⟩ T)
  have c0 : w7.cell? ⟨p, 0, none⟩ = some (.pointer u) := by rw [heap_cell B7, ← HU.out.1]; rfl
  have c1 : w7.cell? ⟨p, 1, none⟩ = some (.map (some mb)) := by rw [heap_cell B7]; rfl
  have q0 := heap_frozen B7 0 (by omega)
  have hp7 := heap_lt B7
  obtain ⟨hn7, -, -, -, d3, -, -, -, -⟩ := N7.cells
  dsimp only at d3
  have B8 : ((w7.setCell ⟨p, 0, none⟩ (.pointer ui)).drew).heap[p]? = some (.cells #[(T.ins w.heap.size ⟨nx + 1, f, t, v⟩).ptr, .map (some mb), .int .i64 (nx + 1)] 69 (0, 0)) := by rw [HU.out.2]; exact heap_set B7 0 _
  have K8 : Kept [p] w7 ((w7.setCell ⟨p, 0, none⟩ (.pointer ui)).drew) := ((Kept.refl [p] w7).set p 0 _ (by simp)).drew
  have hpi : p ∉ (T.ins w.heap.size ⟨nx + 1, f, t, v⟩).blocks := fun e => by
    have := (Tr.perm_ins w.heap.size ⟨nx + 1, f, t, v⟩ T).mem_iff.1 e
    simp at this
    rcases this with h | h
    · exact hpw2 h
    · exact HQ.out.1 h
  have T8 := K8.tree h7 (fun k hk e => by simp at e; subst e; exact hpi hk)
  have hmlt : mb < w6.heap.size := HX6.out.2.2.2.2.lt
  have M7 := HX6.out.2.2.2.2.of_block (k7.block mb hmlt (by
    simp
    refine ⟨fun e => ?_, HQ.out.2.1⟩
    have := HO.out.map.lt
    omega))
  have M8 := M7.of_block (K8.block mb M7.lt (by simp; exact fun e => HQ.out.2.2 e.symm))
  have hids := HO.out.ids
  obtain ⟨w9, hrun, M9, g9⟩ := M8.upd (by unfold maxLen; have := HB.out; omega) (nx + 1) f (by have := HB.out; omega) (by have := HF.out; omega) (by rw [look_none (fun x hx => by have := hids x hx; omega)]; rfl)
  have HRUN := hid hrun
  have e1 : (w7.setCell ⟨p, 0, none⟩ (.pointer ui)).cell? ⟨p, 1, none⟩ = some (.map (some mb)) := by rw [World.cell?_setCell_other _ _ _ _ (by intro e; have := congrArg Addr.off e; simp at this)]; exact c1
  have e3 : (w7.setCell ⟨p, 0, none⟩ (.pointer ui)).cell? ⟨w.heap.size, 3, none⟩ = some (.int .i64 (nx + 1)) := by rw [World.cell?_setCell_other _ _ _ _ (by intro e; have := congrArg Addr.off e; simp at this)]; exact d3
  have HC := hid (And.intro e1 (And.intro e3 (And.intro hp7 hn7)))
  have HE := hid (And.intro B8 (And.intro K8 (And.intro T8 (And.intro hpi (And.intro M9 (And.intro g9 (And.intro k7 M8.lt)))))))
  clear B7 N7 B8 K8 hpi T8 hmlt M7 M8 hids hrun M9 g9 k7 h7 hp6 e1 e3
  go_wp2_with fail
  obtain ⟨e1, e3, hp8, hn8⟩ := HC.out
  replace hp8 : p < (w7.setCell ⟨p, 0, none⟩ (.pointer ui)).heap.size := by simpa using hp8
  replace hn8 : w.heap.size < (w7.setCell ⟨p, 0, none⟩ (.pointer ui)).heap.size := by simpa using hn8
  clear HC c0 c1 q0 hp7 d3 hn7
  generalize w7.setCell ⟨p, 0, none⟩ (.pointer ui) = w8 at *
  have d3 : w9.cell? ⟨w.heap.size, 3, none⟩ = some (.int .i64 (nx + 1)) := by
    rw [World.cell?_of_block (a := ⟨w.heap.size, 3, none⟩) (HE.out.2.2.2.2.2.1.block w.heap.size hn8 (by have := HO.out.map.lt; intro e; injection e with e; omega))]
    exact e3
  have hn9 := Nat.lt_of_lt_of_le hn8 HE.out.2.2.2.2.2.1.size
  go_still_tail 9, (by kernel_rfl)
  go_wp2_with (first | (at_mapUpdate; refine wpList_mapUpdate_run _ _ rfl _ _ _ _ rfl _ _ _ rfl rfl rfl HRUN.out ?_) | fail)
  go_ret2
  unfold AddPost
  rw [if_neg (by have := HF.out.1; omega)]
  obtain ⟨hk6, hB6, hZ6, hO6, hM6⟩ := HX6.out
  obtain ⟨B8, K8, T8, hpi, M9, g9, k7, hml⟩ := HE.out
  have hO := HO.out
  have T9 : (T.ins w.heap.size ⟨nx + 1, f, t, v⟩).In w9 := T8.kept (fun b hb => g9.block b (T8.lt b hb) (fun e => by
    injection e with e
    subst e
    have := (Tr.perm_ins w.heap.size ⟨nx + 1, f, t, v⟩ T).mem_iff.1 hb
    simp at this
    rcases this with h | h
    · have := hO.map.lt; omega
    · exact HQ.out.2.1 h))
  have hids := hO.ids
  refine ⟨rfl, ⟨_, mb, ⟨?_, T9, ?_, ?_, (Tr.bal_ins _ _ T hO.bal).1, ?_, ?_, ?_, ?_, ?_, hO.basep, hO.basem, ?_⟩⟩, ⟨?_, ?_⟩⟩
  · exact (g9.block p (heap_lt B8) (by intro e; injection e with e; exact HQ.out.2.2 e)).trans B8
  · rw [Tr.items_ins _ _ T (by rw [hO.items]; exact hO.rises) (by rw [hO.items]; intro x hx; have := hids x hx; dsimp only; omega), hO.items]
  · refine (Tr.perm_ins _ _ T).nodup_iff.2 (List.nodup_cons.2 ⟨HFR.out, hO.nodup⟩)
  · rw [len_addL]
    refine M9.same (fun k => ?_)
    rw [look_addL _ _ (fun x hx => by have := hids x hx; dsimp only; omega)]
    by_cases hk : nx + 1 = k
    · simp [hk]
    · simp [hk]
  · exact hO.rises.addL (fun x hx => by have := hids x hx; dsimp only; omega)
  · intro x hx
    rcases (mem_addL _ _ _).1 hx with rfl | hx
    · have := HB.out; dsimp only; omega
    · have := hids x hx; omega
  · intro x hx
    rcases (mem_addL _ _ _).1 hx with rfl | hx
    · have := HF.out; dsimp only; omega
    · exact hO.fits x hx
  · exact apart_addL hO.apart (fun x hx => by have := hids x hx; dsimp only; omega)
  · intro b hb
    have := (Tr.perm_ins w.heap.size ⟨nx + 1, f, t, v⟩ T).mem_iff.1 hb
    simp at this
    rcases this with rfl | h
    · have := heap_lt hO.box; have := hO.basep; omega
    · exact hO.baset b h
  · have hall : ∀ k, k < w.heap.size → k ≠ p → k ≠ mb → k ∉ T.blocks → w9.heap[k]? = w.heap[k]? := fun k hk h1 h2 h3 => by
      have e1 := g9.block k (by have := K8.size; have := k7.size; omega) (by intro e; injection e with e; exact h2 e)
      have e2 := K8.block k (by have := k7.size; omega) (by simpa using h1)
      have e3 := k7.block k (by omega) (by simp; exact ⟨by omega, h3⟩)
      exact e1.trans (e2.trans (e3.trans (hk6 k hk h1)))
    refine ⟨?_, ?_, ?_, ?_, fun k hk => hall k ?_ ?_ ?_ ?_⟩
    · rw [g9.os, K8.os, k7.os, ← hO6.1]
    · rw [g9.tape, K8.tape, k7.tape, ← hO6.2.1]
    · rw [g9.output, K8.output, k7.output, ← hO6.2.2]
    · have := g9.size; have := K8.size; have := k7.size; omega
    · have := heap_lt hO.box; have := hO.basep; omega
    · have := hO.basep; omega
    · have := hO.basem; omega
    · intro e; have := hO.baset k e; omega
  · intro k o hk ho
    have hlt := heap_lt hk
    have e3 := k7.block k (by omega) (by
      simp
      refine ⟨by omega, fun e => ?_⟩
      obtain ⟨cs, hc⟩ := hO.tree.kind k e
      rw [hk] at hc
      injection hc with hc
      subst hc
      exact ho.2 rfl)
    have hkp : k ≠ p := fun e => by
      have hb := hO.box
      rw [← e, hk] at hb
      injection hb with hb
      subst hb
      exact ho.1 rfl
    have hkm : k ≠ mb := fun e => by
      obtain ⟨es, clock, hm⟩ := hO.map.obj
      rw [← e, hk] at hm
      injection hm with hm
      subst hm
      exact ho
    have e1 := g9.block k (by have := K8.size; have := k7.size; omega) (by intro e; injection e with e; exact hkm e)
    have e2 := K8.block k (by have := k7.size; omega) (by simpa using hkp)
    exact (e1.trans (e2.trans (e3.trans (hk6 k hlt hkp)))).trans hk
end Go.Proofs.Ythmbnffddpnehaa
