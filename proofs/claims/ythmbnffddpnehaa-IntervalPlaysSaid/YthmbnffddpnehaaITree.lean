/- The tree of intervals: as a plain datum with the blocks of its nodes, and in the heap. No Go text is spoken of, but for the node's type. -/
import Derived.Test.YthmbnffddpnehaaInts
namespace Go.Proofs.Ythmbnffddpnehaa
open Go.RowKit
set_option linter.unusedVariables false
set_option linter.unusedSimpArgs false
/-- An interval. -/
structure It where
  id : Int
  f : Int
  t : Int
  v : ByteArray
inductive Tr where
  | nil
  | node (b : Nat) (x : It) (l r : Tr)
namespace Tr
def ptr : Tr → Value
  | .nil => .pointer none
  | .node b _ _ _ => .pointer (some ⟨b, 0, none⟩)
def high : Tr → Int
  | .nil => 0
  | .node _ _ l r => 1 + imax l.high r.high
def last : Tr → Int
  | .nil => -9223372036854775808
  | .node _ x l r => imax (imax x.t l.last) r.last
def size : Tr → Nat
  | .nil => 0
  | .node _ _ l r => l.size + r.size + 1
def items : Tr → List It
  | .nil => []
  | .node _ x l r => l.items ++ x :: r.items
def blocks : Tr → List Nat
  | .nil => []
  | .node b _ l r => b :: (l.blocks ++ r.blocks)
def turnL : Tr → Tr
  | .node b x l (.node c y m r) => .node c y (.node b x l m) r
  | t => t
def turnR : Tr → Tr
  | .node b x (.node c y l m) r => .node c y l (.node b x m r)
  | t => t
def fixL : Tr → Tr
  | .node c y l r => if l.high < r.high then turnL (.node c y l r) else .node c y l r
  | .nil => .nil
def fixR : Tr → Tr
  | .node c y l r => if r.high < l.high then turnR (.node c y l r) else .node c y l r
  | .nil => .nil
def even (b : Nat) (x : It) (l r : Tr) : Tr :=
  if 1 < l.high - r.high then turnR (.node b x l.fixL r) else if l.high - r.high < -1 then turnL (.node b x l r.fixR) else .node b x l r
/-- Does a place lie ahead of an interval's? -/
def bef (f id : Int) (x : It) : Bool := decide (f < x.f) || (f == x.f && decide (id < x.id))
def ins (n : Nat) (y : It) : Tr → Tr
  | .nil => .node n y .nil .nil
  | .node b x l r => if bef y.f y.id x then even b x (ins n y l) r else even b x l (ins n y r)
def first (b : Nat) (x : It) (l r : Tr) : Nat × It × Tr :=
  match l with
  | .nil => (b, x, r)
  | .node c y m k => ((first c y m k).1, (first c y m k).2.1, even b x (first c y m k).2.2 r)
def rem (f id : Int) : Tr → Tr
  | .nil => .nil
  | .node b x l r => if x.id = id then (match r with
      | .nil => l
      | .node c y m k => even (first c y m k).1 (first c y m k).2.1 l (first c y m k).2.2)
    else if bef f id x then even b x (rem f id l) r else even b x l (rem f id r)
def find (f id : Int) : Tr → Tr
  | .nil => .nil
  | .node b x l r => if x.id = id then .node b x l r else if bef f id x then find f id l else find f id r
theorem high_le : ∀ T : Tr, 0 ≤ T.high ∧ T.high ≤ T.size
  | .nil => by simp [high, size]
  | .node b x l r => by
    have hl := high_le l
    have hr := high_le r
    simp only [high, size, imax]
    split <;> omega
theorem high_pos (b : Nat) (x : It) (l r : Tr) : 1 ≤ (node b x l r).high := by
  have hl := high_le l
  have hr := high_le r
  simp only [high, imax]
  split <;> omega
theorem len_items : ∀ T : Tr, T.items.length = T.size
  | .nil => rfl
  | .node b x l r => by simp [items, size, len_items l, len_items r]; omega
theorem items_turnL : ∀ T : Tr, (turnL T).items = T.items
  | .nil => rfl
  | .node b x l .nil => rfl
  | .node b x l (.node c y m r) => by simp [turnL, items]
theorem items_turnR : ∀ T : Tr, (turnR T).items = T.items
  | .nil => rfl
  | .node b x .nil r => rfl
  | .node b x (.node c y l m) r => by simp [turnR, items]
theorem items_fixL : ∀ T : Tr, (fixL T).items = T.items
  | .nil => rfl
  | .node c y l r => by
    simp only [fixL]
    split
    · exact items_turnL _
    · rfl
theorem items_fixR : ∀ T : Tr, (fixR T).items = T.items
  | .nil => rfl
  | .node c y l r => by
    simp only [fixR]
    split
    · exact items_turnR _
    · rfl
theorem items_even (b : Nat) (x : It) (l r : Tr) : (even b x l r).items = l.items ++ x :: r.items := by
  unfold even
  split
  · rw [items_turnR, items, items_fixL]
  · split
    · rw [items_turnL, items, items_fixR]
    · rfl
theorem perm_turnL : ∀ T : Tr, (turnL T).blocks.Perm T.blocks
  | .nil => List.Perm.refl _
  | .node b x l .nil => List.Perm.refl _
  | .node b x l (.node c y m r) => by
    simp only [turnL, blocks, List.cons_append, List.append_assoc]
    have h : (c :: b :: (l.blocks ++ (m.blocks ++ r.blocks))).Perm (b :: c :: (l.blocks ++ (m.blocks ++ r.blocks))) := List.Perm.swap _ _ _
    exact h.trans (List.Perm.cons _ List.perm_middle.symm)
theorem perm_turnR : ∀ T : Tr, (turnR T).blocks.Perm T.blocks
  | .nil => List.Perm.refl _
  | .node b x .nil r => List.Perm.refl _
  | .node b x (.node c y l m) r => by
    simp only [turnR, blocks, List.cons_append, List.append_assoc]
    exact (List.Perm.cons _ List.perm_middle).trans (List.Perm.swap _ _ _)
theorem perm_fixL : ∀ T : Tr, (fixL T).blocks.Perm T.blocks
  | .nil => List.Perm.refl _
  | .node c y l r => by
    simp only [fixL]
    split
    · exact perm_turnL _
    · exact List.Perm.refl _
theorem perm_fixR : ∀ T : Tr, (fixR T).blocks.Perm T.blocks
  | .nil => List.Perm.refl _
  | .node c y l r => by
    simp only [fixR]
    split
    · exact perm_turnR _
    · exact List.Perm.refl _
theorem perm_even (b : Nat) (x : It) (l r : Tr) : (even b x l r).blocks.Perm (b :: (l.blocks ++ r.blocks)) := by
  unfold even
  split
  · exact (perm_turnR _).trans (List.Perm.cons _ ((perm_fixL l).append_right _))
  · split
    · exact (perm_turnL _).trans (List.Perm.cons _ ((perm_fixR r).append_left _))
    · exact List.Perm.refl _
theorem size_blocks : ∀ T : Tr, T.blocks.length = T.size
  | .nil => rfl
  | .node b x l r => by simp [blocks, size, size_blocks l, size_blocks r]
theorem perm_ins (n : Nat) (y : It) : ∀ T : Tr, (ins n y T).blocks.Perm (n :: T.blocks)
  | .nil => List.Perm.refl _
  | .node b x l r => by
    unfold ins
    split
    · refine (perm_even _ _ _ _).trans ?_
      refine (List.Perm.cons _ ((perm_ins n y l).append_right _)).trans ?_
      exact List.Perm.swap _ _ _
    · refine (perm_even _ _ _ _).trans ?_
      refine (List.Perm.cons _ (((perm_ins n y r).append_left _).trans List.perm_middle)).trans ?_
      exact List.Perm.swap _ _ _
theorem perm_first (b : Nat) (x : It) (l r : Tr) : ((first b x l r).1 :: (first b x l r).2.2.blocks).Perm (b :: (l.blocks ++ r.blocks)) := by
  induction l generalizing b x r with
  | nil => simp [first, blocks]
  | node c y m k ihm ihk =>
    simp only [first]
    refine (List.Perm.cons _ (perm_even _ _ _ _)).trans ?_
    refine (List.Perm.swap _ _ _).trans (List.Perm.cons _ ?_)
    exact (ihm c y k).append_right r.blocks
theorem items_first (b : Nat) (x : It) (l r : Tr) : (first b x l r).2.1 :: (first b x l r).2.2.items = l.items ++ x :: r.items := by
  induction l generalizing b x r with
  | nil => simp [first, items]
  | node c y m k ihm ihk =>
    simp only [first, items_even]
    rw [← List.cons_append, ihm c y k]
    rfl
/-- What is left behind a removal goes through the old blocks alone. -/
theorem sub_rem (f id : Int) : ∀ T : Tr, (rem f id T).blocks.Sublist T.blocks ∨ ∃ L : List Nat, (rem f id T).blocks.Perm L ∧ L.Sublist T.blocks
  | .nil => .inl (List.Sublist.refl _)
  | .node b x l r => by
    right
    unfold rem
    have key : ∀ S T : Tr, ((S.blocks.Sublist T.blocks) ∨ ∃ L : List Nat, S.blocks.Perm L ∧ L.Sublist T.blocks) → ∃ L : List Nat, S.blocks.Perm L ∧ L.Sublist T.blocks := fun S T h => by
      rcases h with h | h
      · exact ⟨_, List.Perm.refl _, h⟩
      · exact h
    split
    · cases r with
      | nil => exact ⟨_, List.Perm.refl _, by simp [blocks]⟩
      | node c y m k =>
        refine ⟨l.blocks ++ (c :: (m.blocks ++ k.blocks)), (perm_even _ _ _ _).trans ?_, ?_⟩
        · exact (List.perm_middle.symm).trans ((perm_first c y m k).append_left _)
        · simp [blocks]
    · split
      · obtain ⟨L, h1, h2⟩ := key _ _ (sub_rem f id l)
        exact ⟨b :: (L ++ r.blocks), (perm_even _ _ _ _).trans (List.Perm.cons _ (h1.append_right _)), List.Sublist.cons_cons _ (h2.append_right _)⟩
      · obtain ⟨L, h1, h2⟩ := key _ _ (sub_rem f id r)
        exact ⟨b :: (l.blocks ++ L), (perm_even _ _ _ _).trans (List.Perm.cons _ (h1.append_left _)), List.Sublist.cons_cons _ ((List.Sublist.refl _).append h2)⟩
end Tr
/-- A node, in the heap. -/
def NodeAt (w : World) (b : Nat) (x : It) (la hi : Int) (pl pr : Value) : Prop :=
  w.heap[b]? = some (.cells #[.int .i64 x.f, .int .i64 x.t, .string x.v, .int .i64 x.id, .int .i64 la, .int .i64 hi, pl, pr] 84 (0, 0))
/-- A tree, in the heap. -/
def Tr.In (w : World) : Tr → Prop
  | .nil => True
  | .node b x l r => NodeAt w b x (Tr.node b x l r).last (Tr.node b x l r).high l.ptr r.ptr ∧ Tr.In w l ∧ Tr.In w r
theorem Tr.In.kept {w w' : World} : ∀ {T : Tr}, Tr.In w T → (∀ b ∈ T.blocks, w'.heap[b]? = w.heap[b]?) → Tr.In w' T
  | .nil, _, _ => trivial
  | .node b x l r, ⟨h, hl, hr⟩, hk => ⟨(hk b (by simp [Tr.blocks])).trans h, hl.kept fun c hc => hk c (by simp [Tr.blocks, hc]), hr.kept fun c hc => hk c (by simp [Tr.blocks, hc])⟩
theorem Tr.In.drew {w : World} {T : Tr} (h : Tr.In w T) : Tr.In w.drew T := h.kept fun _ _ => rfl
theorem Tr.In.drewN {w : World} {T : Tr} (h : Tr.In w T) (n : Nat) : Tr.In (w.drewN n) T := h.kept fun _ _ => rfl
theorem Tr.In.lt {w : World} : ∀ {T : Tr}, Tr.In w T → ∀ b ∈ T.blocks, b < w.heap.size
  | .nil, _, b, hb => by simp [Tr.blocks] at hb
  | .node c x l r, ⟨h, hl, hr⟩, b, hb => by
    simp only [Tr.blocks, List.mem_cons, List.mem_append] at hb
    rcases hb with rfl | hb | hb
    · exact heap_lt h
    · exact hl.lt b hb
    · exact hr.lt b hb
/-- What may have changed: these blocks; all else that was there is as it was. -/
structure Kept (bs : List Nat) (w w' : World) : Prop where
  os : w'.os = w.os
  tape : w'.tape = w.tape
  output : w'.output = w.output
  size : w.heap.size ≤ w'.heap.size
  block : ∀ k, k < w.heap.size → k ∉ bs → w'.heap[k]? = w.heap[k]?
theorem Kept.of_grow {bs : List Nat} {w w' : World} (h : Grow w w') : Kept bs w w' := ⟨h.os, h.tape, h.output, h.size, fun k hk _ => h.block k hk⟩
theorem Kept.refl (bs : List Nat) (w : World) : Kept bs w w := Kept.of_grow (Grow.refl w)
theorem Kept.trans {bs cs : List Nat} {a b c : World} (h : Kept bs a b) (k : Kept cs b c) (hs : ∀ j ∈ cs, j ∈ bs ∨ a.heap.size ≤ j) : Kept bs a c where
  os := k.os.trans h.os
  tape := k.tape.trans h.tape
  output := k.output.trans h.output
  size := Nat.le_trans h.size k.size
  block := fun j hj hn => by
    rw [k.block j (Nat.lt_of_lt_of_le hj h.size) (fun hc => by rcases hs j hc with h1 | h1; exact hn h1; omega), h.block j hj hn]
theorem Kept.mono {bs cs : List Nat} {a b : World} (h : Kept bs a b) (hs : ∀ j ∈ bs, j ∈ cs) : Kept cs a b := ⟨h.os, h.tape, h.output, h.size, fun j hj hn => h.block j hj fun hb => hn (hs j hb)⟩
theorem Kept.set {bs : List Nat} {a w : World} (h : Kept bs a w) (b o : Nat) (v : Value) (hb : b ∈ bs) : Kept bs a (w.setCell ⟨b, o, none⟩ v) where
  os := by rw [← h.os]; rfl
  tape := by rw [← h.tape]; rfl
  output := by rw [← h.output]; rfl
  size := by simpa using h.size
  block := fun k hk hn => by rw [Below.heap_setCell _ _ _ _ (fun e => hn (by rw [e]; exact hb)), h.block k hk hn]
theorem Kept.drewN {bs : List Nat} {a w : World} (h : Kept bs a w) (n : Nat) : Kept bs a (w.drewN n) := ⟨h.os, h.tape, h.output, h.size, h.block⟩
theorem Kept.drew {bs : List Nat} {a w : World} (h : Kept bs a w) : Kept bs a w.drew := ⟨h.os, h.tape, h.output, h.size, h.block⟩
theorem Kept.below {bs : List Nat} {B : Nat} {a b : World} (h : Kept bs a b) (hB : B ≤ a.heap.size) (hs : ∀ j ∈ bs, B ≤ j) : Below B a b :=
  ⟨h.os, h.tape, h.output, h.size, fun k hk => h.block k (by omega) (fun hb => by have := hs k hb; omega)⟩
theorem Kept.node {bs : List Nat} {a w : World} (h : Kept bs a w) {b : Nat} {o : Obj} (hn : a.heap[b]? = some o) (hb : b ∉ bs) : w.heap[b]? = some o := (h.block b (heap_lt hn) hb).trans hn
theorem Kept.tree {bs : List Nat} {a w : World} (h : Kept bs a w) {T : Tr} (hT : T.In a) (hb : ∀ b ∈ T.blocks, b ∉ bs) : T.In w := hT.kept fun b hb' => h.block b (hT.lt b hb') (hb b hb')
end Go.Proofs.Ythmbnffddpnehaa
