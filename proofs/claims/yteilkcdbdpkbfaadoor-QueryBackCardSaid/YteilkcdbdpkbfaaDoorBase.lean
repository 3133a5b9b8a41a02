/- Small laws that all walks of this seat use: hiding a fact, min and max of two integers as one term, one append of one element. No Go text is spoken of. -/
import Derived.WalkKit
import Derived.WalkSpells
import Derived.WalkLawsBesides
namespace Go.Proofs.YteilkcdbdpkbfaaDoor
open Go.RowKit

theorem hid {p : Prop} (h : p) : Hid p := h

/-- The smaller, and the greater of two integers, each as one term that the walk does not part. -/
def imin (a b : Int) : Int := if b < a then b else a
def imax (a b : Int) : Int := if a < b then b else a

section
variable {P : Program} (w : World)
theorem run_imin (ts : Array TypeId) (t : TypeId) (k k' : IntKind) (x y : Int) : (Builtin.min_ ts t #[.int k x, .int k' y]).run P w = .ok (.int k (imin x y)) w := by
  rw [run_min_int2]; rfl
theorem run_imax (ts : Array TypeId) (t : TypeId) (k k' : IntKind) (x y : Int) : (Builtin.max_ ts t #[.int k x, .int k' y]).run P w = .ok (.int k (imax x y)) w := by
  simp [go_sem, imax]
end

/-- The element type's row of the program's table: its zero, how many cells it has, how many bytes. -/
def Info (P : Program) (e : TypeId) (z : Value) (size bytes : Nat) : Prop := (P.info? e).map (fun i => (i.zero, i.size, i.bytes)) = some (some z, size, bytes)

/-- What changed between two worlds: only the block of one row (if any), and new blocks. -/
abbrev Row (w w' : World) (v : Value) : Prop := w.grownBy w' v.ownBlock

theorem Row.below {B : Nat} {a w w' : World} {v : Value} (h : Below B a w) (hg : w.grownBy w' v.ownBlock) (hB : B ≤ w.heap.size) (hr : ∀ k, v.ownBlock = some k → B ≤ k) : Below B a w' := h.grown hg hB hr

theorem grownBy_of_alloc {w w' : World} {o : Obj} {row : Option Nat} (h : (w.alloc o).grownBy w' row) : w.grownBy w' row :=
  ⟨h.os, h.tape, h.output, Nat.le_trans (by simp) h.size, fun k hk hne => (h.block k (by simp; omega) hne).trans (Below.heap_alloc w o k hk)⟩

/-- 'append(v, x)', x one element that the statement has just laid. -/
theorem wpList_push {P : Program} {w0 : World} {ops : Array Oper} {rest : List Oper} {o : Oper} {a : Act} {Q : Exit → Act → World → Prop} (hg : o.guard = none) (s x : Operand) (t : TypeId)
    (hop : o.op = .call { callee := .builtin .append, args := #[s, x], argTypes := #[t, t] })
    (e : TypeId) (z : Value) (size bytes : Nat) (ht : P.underlying t = some (.slice e)) (hi : Info P e z size bytes) (hzs : z.cells.size = size) (hsz : 0 < size)
    (base : Nat) (v : Value) (n : Nat) (xs : List Value) (hs : a.eval s = v) (hown : w0.ownsRow base e size v n xs)
    (cs : List Value) (hx : a.eval x = .slice (some ⟨w0.heap.size, 0, none⟩) 1 1) (hcs : cs.length = size) (h1 : ∀ u ∈ cs, u.oneCell' = true)
    (h63 : n + 1 ≤ maxLen) (hbytes : (n + 1) * bytes ≤ 140737488355328) (hbase : base ≤ w0.heap.size)
    (hK : ∀ v' w', w'.ownsRow base e size v' (n + 1) (xs ++ cs) → w0.grownBy w' v.ownBlock → w0.heap.size < w'.heap.size → wpList P ops Q rest (a.put o.dst v') w') :
    wpList P ops Q (o :: rest) a (w0.alloc (.cells cs.toArray e)) := by
  obtain ⟨i0, hi0, hz0, hz1, hz2⟩ := info_parts hi
  refine wpList_append_own _ hg s x t hop base e i0 z size bytes ht hi0 hz0 hz1 hz2 hzs hsz v n xs hs (hown.alloc _) ⟨w0.heap.size, 0, none⟩ 1 1 cs hx (by omega) ?_ h1 h63 hbytes (by simp; omega) ?_
  · intro j u hu
    rw [Addr.add_lit, Nat.zero_add, cell_of_row _ w0.heap.size j cs.toArray e (0, 0) (heap_alloc_new w0 _)]
    simpa using hu
  · intro v' w' ho hgr _
    exact hK v' w' ho (grownBy_of_alloc hgr) (by have := hgr.size; simp at this; omega)

/-- The bytes of a text as cells. -/
def u8s (l : List UInt8) : List Value := l.map fun b => .int .u8 b.toNat
theorem u8s_append (a b : List UInt8) : u8s (a ++ b) = u8s a ++ u8s b := by simp [u8s]
theorem u8s_length (a : List UInt8) : (u8s a).length = a.length := by simp [u8s]

/-- An owned row of bytes as a text. -/
theorem own_string {P : Program} {w : World} {base : Nat} {src e : TypeId} {v : Value} {n : Nat} {l : List UInt8} (hs : P.underlying src = some (.slice e)) (he : P.underlying e = some (.int .u8))
    (hown : w.ownsRow base e 1 v n (u8s l)) : ∀ dst, P.underlying dst = some .string → (convert src dst v).run P w = .ok (.string ⟨l.toArray⟩) w := by
  intro dst hd
  have hl : l.length = n := by have := hown.1; simpa [u8s] using this
  have hno : strOfNums (l.map fun b => (b.toNat : Int)) = ⟨l.toArray⟩ := by
    unfold strOfNums
    congr 2
    rw [List.map_map]
    conv => rhs; rw [← List.map_id l]
    apply List.map_congr_left
    intro b _
    simp
  rcases hown.2 with ⟨rfl, rfl⟩ | ⟨g, cap, cur, rfl, _, hg, hnc, hcm, hcs, htake⟩
  · have : l = [] := List.eq_nil_of_length_eq_zero hl
    subst this
    rw [run_convert_bytes_nil w src e hs he 0 0 dst hd]
    rfl
  · rw [run_convert_bytes_arg w src e hs he g 0 n cap (l.map fun b => (b.toNat : Int)) (by simpa using hl) ?_ dst hd, hno]
    intro i hi
    have := hown.cellAt i (by omega)
    rw [Nat.zero_add, this]
    have hil : i < l.length := by omega
    simp [u8s, List.getD, hil]
/-- 'string([]byte{x})'. -/
theorem conv_one {P : Program} {src e dst : TypeId} (hs : P.underlying src = some (.slice e)) (he : P.underlying e = some (.int .u8)) (hd : P.underlying dst = some .string) (w : World) (x : Int) :
    (convert src dst (.slice (some ⟨w.heap.size, 0, none⟩) 1 1)).run P (w.alloc (.cells #[.int .u8 x] e)) = .ok (.string ⟨[UInt8.ofNat x.toNat].toArray⟩) (w.alloc (.cells #[.int .u8 x] e)) := by
  rw [run_convert_bytes_arg _ src e hs he w.heap.size 0 1 1 [x] rfl ?_ dst hd]
  · rfl
  · intro i hi
    obtain rfl : i = 0 := by omega
    rw [cell_of_row _ w.heap.size _ _ e (0, 0) (heap_alloc_new w _)]
    rfl

/-- A block of cells, one of them written. -/
theorem heap_set {w : World} {g : Nat} {cs : Array Value} {e : TypeId} {fr : Nat × Nat} (h : w.heap[g]? = some (.cells cs e fr)) (j : Nat) (u : Value) : (w.setCell ⟨g, j, none⟩ u).heap[g]? = some (.cells (cs.setIfInBounds j u) e fr) := by
  simp only [World.setCell, Array.getElem?_modify]
  simp [h]
theorem heap_cell {w : World} {g : Nat} {cs : Array Value} {e : TypeId} {fr : Nat × Nat} (h : w.heap[g]? = some (.cells cs e fr)) (j : Nat) : w.cell? ⟨g, j, none⟩ = cs[j]? := cell_of_row w g j cs e fr h
theorem heap_frozen {w : World} {g : Nat} {cs : Array Value} {e : TypeId} {lo hi : Nat} (h : w.heap[g]? = some (.cells cs e (lo, hi))) (j : Nat) (hj : j < lo ∨ hi ≤ j) : w.frozen? ⟨g, j, none⟩ = false := by
  unfold World.frozen?
  rw [h]
  simp
  omega
theorem heap_new (w : World) (o : Obj) : (w.alloc o).heap[w.heap.size]? = some o := heap_alloc_new w o
theorem heap_newG (w : World) (o : Obj) (h : w.heap.size < (w.alloc o).heap.size) : (w.alloc o).heap[w.heap.size]'h = o := by
  have := heap_new w o
  rw [Array.getElem?_eq_getElem h] at this
  exact Option.some.inj this
theorem heap_old {B : Nat} {w w' : World} (hb : Below B w w') {g : Nat} (hg : g < B) {o : Obj} (h : w.heap[g]? = some o) : w'.heap[g]? = some o := (hb.block g hg).trans h
theorem heap_keep {w : World} {g : Nat} {o : Obj} (h : w.heap[g]? = some o) (a : Addr) (u : Value) (hne : g ≠ a.block) : (w.setCell a u).heap[g]? = some o := by
  rw [Below.heap_setCell _ _ _ _ hne]; exact h
theorem heap_lt {w : World} {g : Nat} {o : Obj} (h : w.heap[g]? = some o) : g < w.heap.size := (Array.getElem?_eq_some_iff.1 h).1
theorem heap_alloc_keep {w : World} {g : Nat} {o : Obj} (h : w.heap[g]? = some o) (x : Obj) : (w.alloc x).heap[g]? = some o := by
  rw [Below.heap_alloc w x g (heap_lt h)]; exact h

/-- 'string(b)', b's cells the bytes of a text. -/
theorem conv_bytes {P : Program} {w : World} {src e dst : TypeId} (hs : P.underlying src = some (.slice e)) (he : P.underlying e = some (.int .u8)) (hd : P.underlying dst = some .string)
    (g off cap : Nat) (l : List UInt8) (n : Nat) (hn : l.length = n) (hc : ∀ j (hj : j < l.length), w.cell? ⟨g, off + j, none⟩ = some (.int .u8 (l[j].toNat : Int))) :
    (convert src dst (.slice (some ⟨g, off, none⟩) n cap)).run P w = .ok (.string ⟨l.toArray⟩) w := by
  subst hn
  exact run_convert_bytes_back w src dst e ⟨g, off, none⟩ cap l hs he hd (fun j hj => by rw [Addr.add_lit]; exact hc j hj)
end Go.Proofs.YteilkcdbdpkbfaaDoor
