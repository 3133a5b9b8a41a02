/- Nodes in memory. -/
import Derived.Test.YteilkcdbdpkbfaaDoorQMem
import Derived.Deep.AppendLies
namespace Go.Proofs.YteilkcdbdpkbfaaDoor
open Go.RowKit
set_option linter.unusedVariables false
set_option linter.unusedSimpArgs false
mutual
/-- The value is this node; what it joins lies in blocks of a set. -/
def NodeR.In (S : Nat → Prop) (w : World) : NodeR → Value → Prop
  | .mk k ks f s x, v => ∃ p cap, v = .agg #[.int .i64 k, .slice p ks.length cap, .string f, .string s, .int .i64 x] ∧ ks.length ≤ cap ∧ (ks ≠ [] → ∃ b o, p = some ⟨b, o, none⟩ ∧ S b ∧ b < w.heap.size ∧ kidsIn S w b ks o)
def kidsIn (S : Nat → Prop) (w : World) (b : Nat) : List NodeR → Nat → Prop
  | [], _ => True
  | n :: l, o => (∃ c0 c1 c2 c3 c4, w.cell? ⟨b, o, none⟩ = some c0 ∧ w.cell? ⟨b, o + 1, none⟩ = some c1 ∧ w.cell? ⟨b, o + 2, none⟩ = some c2 ∧ w.cell? ⟨b, o + 3, none⟩ = some c3 ∧ w.cell? ⟨b, o + 4, none⟩ = some c4 ∧ n.In S w (.agg #[c0, c1, c2, c3, c4])) ∧ kidsIn S w b l (o + 5)
end
mutual
theorem NodeR.In.kept {S S' : Nat → Prop} {w w' : World} (hs : w.heap.size ≤ w'.heap.size) (hS : ∀ b, b < w.heap.size → S b → S' b) (hk : ∀ b o v, b < w.heap.size → S b → w.cell? ⟨b, o, none⟩ = some v → w'.cell? ⟨b, o, none⟩ = some v) : ∀ (n : NodeR) (v : Value), n.In S w v → n.In S' w' v
  | .mk k ks f s x, v, h => by
    obtain ⟨p, cap, hv, hc, h⟩ := (by unfold NodeR.In at h; exact h)
    unfold NodeR.In
    refine ⟨p, cap, hv, hc, fun hn => ?_⟩
    obtain ⟨b, o, hp, hlo, hb, hks⟩ := h hn
    exact ⟨b, o, hp, hS b hb hlo, Nat.lt_of_lt_of_le hb hs, kidsIn.kept hs hS hk hb hlo ks o hks⟩
theorem kidsIn.kept {S S' : Nat → Prop} {w w' : World} (hs : w.heap.size ≤ w'.heap.size) (hS : ∀ b, b < w.heap.size → S b → S' b) (hk : ∀ b o v, b < w.heap.size → S b → w.cell? ⟨b, o, none⟩ = some v → w'.cell? ⟨b, o, none⟩ = some v) {b : Nat} (hb : b < w.heap.size) (hlo : S b) : ∀ (l : List NodeR) (o : Nat), kidsIn S w b l o → kidsIn S' w' b l o
  | [], _, _ => by unfold kidsIn; trivial
  | n :: l, o, h => by
    unfold kidsIn at h ⊢
    obtain ⟨⟨c0, c1, c2, c3, c4, h0, h1, h2, h3, h4, hn⟩, hr⟩ := h
    exact ⟨⟨c0, c1, c2, c3, c4, hk _ _ _ hb hlo h0, hk _ _ _ hb hlo h1, hk _ _ _ hb hlo h2, hk _ _ _ hb hlo h3, hk _ _ _ hb hlo h4, NodeR.In.kept hs hS hk n _ hn⟩, kidsIn.kept hs hS hk hb hlo l (o + 5) hr⟩
end
theorem NodeR.In.grown {S : Nat → Prop} {row : Option Nat} {w w' : World} (hr : ∀ b, b < w.heap.size → S b → some b ≠ row) (hg : w.grownBy w' row) {n : NodeR} {v : Value} (h : n.In S w v) : n.In S w' v :=
  NodeR.In.kept hg.size (fun _ _ h => h) (fun b o v hb hlo hc => hg.cell hc (hr b hb hlo)) n v h
theorem NodeR.In.grow {S : Nat → Prop} {w w' : World} (hg : Grow w w') {n : NodeR} {v : Value} (h : n.In S w v) : n.In S w' v :=
  NodeR.In.kept hg.size (fun _ _ h => h) (fun b o v _ _ hc => hg.cell hc) n v h
theorem NodeR.In.weaken {S S' : Nat → Prop} {w : World} (hS : ∀ b, b < w.heap.size → S b → S' b) {n : NodeR} {v : Value} (h : n.In S w v) : n.In S' w v :=
  NodeR.In.kept (Nat.le_refl _) hS (fun _ _ _ _ _ h => h) n v h
/-- A node that joins none. -/
theorem NodeR.In.leaf (S : Nat → Prop) (w : World) (k : Int) (f s : ByteArray) (x : Int) : (NodeR.mk k [] f s x).In S w (.agg #[.int .i64 k, .slice none 0 0, .string f, .string s, .int .i64 x]) := by
  unfold NodeR.In
  exact ⟨none, 0, rfl, Nat.le_refl _, fun h => absurd rfl h⟩
/-- Nodes that stand in cells, five each. -/
def nodesIn (S : Nat → Prop) (w : World) : List NodeR → List Value → Prop
  | [], xs => xs = []
  | n :: l, xs => ∃ c0 c1 c2 c3 c4 ys, xs = c0 :: c1 :: c2 :: c3 :: c4 :: ys ∧ n.In S w (.agg #[c0, c1, c2, c3, c4]) ∧ nodesIn S w l ys
theorem nodesIn.mono {S S' : Nat → Prop} {w w' : World} (h : ∀ (n : NodeR) (v : Value), n.In S w v → n.In S' w' v) : ∀ (l : List NodeR) (xs : List Value), nodesIn S w l xs → nodesIn S' w' l xs
  | [], _, hx => hx
  | n :: l, _, ⟨c0, c1, c2, c3, c4, ys, e, hn, hr⟩ => ⟨c0, c1, c2, c3, c4, ys, e, h n _ hn, nodesIn.mono h l ys hr⟩
theorem nodesIn.snoc {S : Nat → Prop} {w : World} {n : NodeR} {c0 c1 c2 c3 c4 : Value} (hn : n.In S w (.agg #[c0, c1, c2, c3, c4])) : ∀ (l : List NodeR) (xs : List Value), nodesIn S w l xs → nodesIn S w (l ++ [n]) (xs ++ [c0, c1, c2, c3, c4])
  | [], xs, hx => by
    rw [show xs = [] from hx]
    exact ⟨c0, c1, c2, c3, c4, [], rfl, hn, rfl⟩
  | m :: l, xs, ⟨d0, d1, d2, d3, d4, ys, e, hm, hr⟩ => by
    subst e
    exact ⟨d0, d1, d2, d3, d4, ys ++ [c0, c1, c2, c3, c4], rfl, hm, nodesIn.snoc hn l ys hr⟩
theorem nodesIn.kids {S : Nat → Prop} {w : World} {g : Nat} : ∀ (l : List NodeR) (xs : List Value) (o : Nat), nodesIn S w l xs → (∀ j u, xs[j]? = some u → w.cell? ⟨g, o + j, none⟩ = some u) → kidsIn S w g l o
  | [], _, _, _, _ => by unfold kidsIn; trivial
  | n :: l, xs, o, ⟨c0, c1, c2, c3, c4, ys, e, hn, hr⟩, hc => by
    subst e
    unfold kidsIn
    refine ⟨⟨c0, c1, c2, c3, c4, hc 0 _ rfl, hc 1 _ rfl, hc 2 _ rfl, hc 3 _ rfl, hc 4 _ rfl, hn⟩, nodesIn.kids l ys (o + 5) hr (fun j u h => ?_)⟩
    have := hc (j + 5) u (by simpa using h)
    rw [show o + 5 + j = o + (j + 5) from by omega]
    exact this
theorem nodesIn.len {S : Nat → Prop} {w : World} : ∀ (l : List NodeR) (xs : List Value), nodesIn S w l xs → xs.length = l.length * 5
  | [], xs, hx => by rw [show xs = [] from hx]; rfl
  | n :: l, _, ⟨c0, c1, c2, c3, c4, ys, e, hn, hr⟩ => by
    subst e
    have := nodesIn.len l ys hr
    simp only [List.length_cons, this]
    omega
/-- From a block on, but not the block of a row. -/
def Off (B : Nat) (v : Value) (b : Nat) : Prop := B ≤ b ∧ v.ownBlock ≠ some b
/-- A node that joins others, which lie in a row of the call's own. -/
theorem NodeR.In.joins {lo base : Nat} {w : World} {e : TypeId} {v : Value} {acc : List NodeR} {xs : List Value} (hl : 0 < acc.length) (hb : lo ≤ base) (ho : w.ownsRow base e 5 v acc.length xs) (hn : nodesIn (Off base v) w acc xs) (k : Int) (f s : ByteArray) (x : Int) :
    (NodeR.mk k acc f s x).In (fun b => lo ≤ b) w (.agg #[.int .i64 k, v, .string f, .string s, .int .i64 x]) := by
  have ho' := ho
  rcases ho.2 with ⟨_, h0⟩ | ⟨g, cap, cur, rfl, hg, hh, hnc, -, -, -⟩
  · omega
  · unfold NodeR.In
    refine ⟨_, cap, rfl, hnc, fun _ => ⟨g, 0, rfl, by omega, heap_lt hh, ?_⟩⟩
    refine nodesIn.kids acc xs 0 (nodesIn.mono (fun n v h => NodeR.In.weaken (fun b _ hb => by have := hb.1; show lo ≤ b; omega) h) acc xs hn) (fun j u h => ?_)
    have := World.ownsRow.cells ho' (g := g) rfl j u h
    simpa [Addr.add_lit] using this
/-- One more node at the row's end. -/
theorem nodes_push {lo g H : Nat} {w w' : World} {v v' : Value} {acc : List NodeR} {xs : List Value} {n : NodeR} {c0 c1 c2 c3 c4 : Value} (hn : nodesIn (Off lo v) w acc xs) (hg : w.grownBy w' v.ownBlock) (hv : v'.ownBlock = some g) (hat : v.ownBlock = some g ∨ g = H) (hH : w.heap.size ≤ H)
    {lo2 : Nat} (h2 : lo ≤ lo2) (hlt : ∀ k, v.ownBlock = some k → k < lo2) (hm : n.In (fun b => lo2 ≤ b) w (.agg #[c0, c1, c2, c3, c4])) : nodesIn (Off lo v') w' (acc ++ [n]) (xs ++ [c0, c1, c2, c3, c4]) := by
  have hm' : n.In (Off lo v) w (.agg #[c0, c1, c2, c3, c4]) := NodeR.In.weaken (fun b _ hb => ⟨by have : lo2 ≤ b := hb; omega, fun e => by have := hlt b e; have : lo2 ≤ b := hb; omega⟩) hm
  refine nodesIn.mono (fun n u h => NodeR.In.kept hg.size (fun b hb hS => ⟨hS.1, fun e => ?_⟩) (fun b o u hb hS hc => hg.cell hc (fun e => hS.2 e.symm)) n u h) _ _ (nodesIn.snoc hm' acc xs hn)
  rw [hv] at e
  obtain rfl : g = b := Option.some.inj e
  rcases hat with h | h
  · exact hS.2 h
  · omega
/-- A node's value, cell by cell. -/
theorem NodeR.In.value {S : Nat → Prop} {w : World} {n : NodeR} {v : Value} (h : n.In S w v) : ∃ (k : Int) (p : Option Addr) (l c : Nat) (f s : ByteArray) (x : Int), v = .agg #[.int .i64 k, .slice p l c, .string f, .string s, .int .i64 x] := by
  cases n with
  | mk k ks f s x =>
    unfold NodeR.In at h
    obtain ⟨p, cap, hv, _⟩ := h
    exact ⟨k, p, ks.length, cap, f, s, x, hv⟩
theorem run_tok1 (a b c d : Value) (w : World) : (Instr.field 78 (.agg #[a, b, c, d]) 1).run Tryd.prog w = .ok b w := by
  unfold Instr.field
  simp [go_sem]
  rfl
theorem run_tok2 (a b c d : Value) (w : World) : (Instr.field 78 (.agg #[a, b, c, d]) 2).run Tryd.prog w = .ok c w := by
  unfold Instr.field
  simp [go_sem]
  rfl
/-- Behind the reading of a node. -/
def NVal (lo : Nat) (n : NodeR) (v : Value) (w : World) : Prop := n.In (fun b => lo ≤ b) w v
theorem heapBy {w w' : World} {rb g : Nat} {o : Obj} (hg : w.grownBy w' (some rb)) (h : w.heap[g]? = some o) (hne : g ≠ rb) : w'.heap[g]? = some o :=
  (hg.block g (heap_lt h) (by simpa using hne)).trans h
/-- A store into a block of the call's own. -/
theorem grownBy_setNew {a w : World} {row : Option Nat} (h : a.grownBy w row) {g : Nat} (hg : a.heap.size ≤ g) (j : Nat) (v : Value) : a.grownBy (w.setCell ⟨g, j, none⟩ v) row where
  os := by rw [← h.os]; rfl
  tape := by rw [← h.tape]; rfl
  output := by rw [← h.output]; rfl
  size := by simpa using h.size
  block := fun k hk hr => by rw [Below.heap_setCell _ _ _ _ (fun e => by have : k = g := e; omega), h.block k hk hr]
/-- A node that is written into a block of the call's own. -/
theorem store5 {w w2 : World} {rb fin deep rs : Nat} {L : List Tok} {t : TypeId} (g : w.grownBy w2 (some rb)) (r : RdAt w2 rb fin deep L) {a0 a1 a2 a3 a4 : Value} (hR : w2.heap[rs]? = some (.cells #[a0, a1, a2, a3, a4] t)) (hrs : w.heap.size ≤ rs) (hne : rb < rs) (c0 c1 c2 c3 c4 : Value) {n : NodeR} {v : Value} {lo : Nat} (hn : n.In (fun b => rs + 1 ≤ b) w2 v) (hlo : lo ≤ rs) :
    w.grownBy (((((w2.setCell ⟨rs, 0, none⟩ c0).setCell ⟨rs, 1, none⟩ c1).setCell ⟨rs, 2, none⟩ c2).setCell ⟨rs, 3, none⟩ c3).setCell ⟨rs, 4, none⟩ c4) (some rb) ∧
    (((((w2.setCell ⟨rs, 0, none⟩ c0).setCell ⟨rs, 1, none⟩ c1).setCell ⟨rs, 2, none⟩ c2).setCell ⟨rs, 3, none⟩ c3).setCell ⟨rs, 4, none⟩ c4).heap[rs]? = some (.cells #[c0, c1, c2, c3, c4] t) ∧
    RdAt (((((w2.setCell ⟨rs, 0, none⟩ c0).setCell ⟨rs, 1, none⟩ c1).setCell ⟨rs, 2, none⟩ c2).setCell ⟨rs, 3, none⟩ c3).setCell ⟨rs, 4, none⟩ c4) rb fin deep L ∧
    n.In (fun b => lo ≤ b) (((((w2.setCell ⟨rs, 0, none⟩ c0).setCell ⟨rs, 1, none⟩ c1).setCell ⟨rs, 2, none⟩ c2).setCell ⟨rs, 3, none⟩ c3).setCell ⟨rs, 4, none⟩ c4) v := by
  refine ⟨?_, ?_, ?_, ?_⟩
  · exact grownBy_setNew (grownBy_setNew (grownBy_setNew (grownBy_setNew (grownBy_setNew g hrs 0 _) hrs 1 _) hrs 2 _) hrs 3 _) hrs 4 _
  · exact heap_set (heap_set (heap_set (heap_set (heap_set hR 0 _) 1 _) 2 _) 3 _) 4 _
  · exact ((((r.setB hne 0 _).setB hne 1 _).setB hne 2 _).setB hne 3 _).setB hne 4 _
  · have hg : w2.grownBy (((((w2.setCell ⟨rs, 0, none⟩ c0).setCell ⟨rs, 1, none⟩ c1).setCell ⟨rs, 2, none⟩ c2).setCell ⟨rs, 3, none⟩ c3).setCell ⟨rs, 4, none⟩ c4) (some rs) :=
      Lib.grownBy_setB (Lib.grownBy_setB (Lib.grownBy_setB (Lib.grownBy_setB (Lib.grownBy_setB (World.grownBy.refl w2 _) 0 _) 1 _) 2 _) 3 _) 4 _
    exact NodeR.In.kept hg.size (fun b _ hb => by have : rs + 1 ≤ b := hb; show lo ≤ b; omega) (fun b o v _ hb hc => hg.cell hc (by have : rs + 1 ≤ b := hb; simp; omega)) n v hn
/-- A row of the call's own grows. -/
theorem grownBy_newRow {a b c : World} {row : Option Nat} {g : Nat} (h : a.grownBy b row) (k : b.grownBy c (some g)) (hg : a.heap.size ≤ g) : a.grownBy c row where
  os := k.os.trans h.os
  tape := k.tape.trans h.tape
  output := k.output.trans h.output
  size := Nat.le_trans h.size k.size
  block := fun j hj hr => by rw [k.block j (Nat.lt_of_lt_of_le hj h.size) (by simp; omega), h.block j hj hr]
/-- A row of one element, made now. -/
theorem own_oneB (w : World) (cur : Array Value) (e : TypeId) (size : Nat) (hs : cur.size = size) {base : Nat} (hb : base ≤ w.heap.size) : (w.alloc (.cells cur e)).ownsRow base e size (.slice (some ⟨w.heap.size, 0, none⟩) 1 1) 1 cur.toList :=
  ⟨by simp [hs], .inr ⟨w.heap.size, 1, cur, rfl, hb, heap_alloc_new w _, Nat.le_refl _, by unfold maxLen; omega, by omega, by rw [List.take_of_length_le]; simp [hs]⟩⟩
/-- A function that gives a node back. -/
theorem node_ret {fn : Func} {p : Tmp} (hfr : fn.results = #[.cell p 24]) {lo rb fin deep rs : Nat} {w W : World} {r : PR NodeR} {n : NodeR} {L : List Tok} {c0 c1 c2 c3 c4 : Value} {tm : Array Value} (ht : tm.getD p undef = .pointer (some ⟨rs, 0, none⟩)) (hp : r = .ok n L)
    (E : w.grownBy W (some rb) ∧ W.heap[rs]? = some (.cells #[c0, c1, c2, c3, c4] 24) ∧ RdAt W rb fin deep L ∧ n.In (fun b => lo ≤ b) W (.agg #[c0, c1, c2, c3, c4])) :
    bodyPost Tryd.prog fn (RdPost (NVal lo) rb fin deep r w) Exit.ret { tmps := tm, defers := [] } W := by
  subst hp
  exact bodyPost_ret (results_cellK hfr _ _ rs 24 _ (0, 0) _ ht E.2.1 Tryd.underlying24 rfl (by kernel_rfl)) rfl ⟨E.1, _, rfl, E.2.2.2, E.2.2.1⟩
end Go.Proofs.YteilkcdbdpkbfaaDoor
