/- What lies in memory as a history is made. -/
import Derived.Test.YtlhgdbangnohjaaGSrc
import Derived.Test.YtlhgdbangnohjaaGPlain
import Derived.Test.YtlhgdbangnohjaaMOpsRow
import Derived.Test.YtlhgdbangnohjaaHRow
namespace Go.Proofs.Ytlhgdbangnohjaa
open Go.RowKit
set_option linter.unusedVariables false
set_option linter.unusedSimpArgs false
/-- Where it lies. -/
structure GR where
  g : Nat
  gs : Nat
  gf : Nat
  gg : Nat
  gst : Nat
  cst : Nat
  lv : Value
  svs : List Value
def boolCells (l : List Bool) : List Value := l.map Value.bool
/-- The cells of the whole. -/
def wcells (c : GenC) (R : GR) (now : Int) : Array Value := #[.int .u64 c.seed, .int .i64 c.procs, .int .i64 c.objects, .int .i64 c.ops, .int .i64 c.wrong, .int .i64 c.pending, .pointer (some ⟨R.gs, 0, none⟩),
  .slice (some ⟨R.gf, 0, none⟩) c.procs.toNat c.procs.toNat, .slice (some ⟨R.gg, 0, none⟩) c.procs.toNat c.procs.toNat, .slice (some ⟨R.gst, 0, none⟩) c.objects.toNat R.cst, .int .i64 now, R.lv]
/-- Numbers stay where their block does. -/
theorem Ints.keep {w w' : World} {v : Value} {xs : List Int} (h : Ints w v xs) (hk : ∀ a n c, v = .slice (some a) n c → 0 < n → w'.heap[a.block]? = w.heap[a.block]?) : Ints w' v xs := by
  obtain ⟨p, cap, rfl, hl, hc, hn⟩ := h
  refine ⟨p, cap, rfl, hl, fun h0 => ?_, hn⟩
  obtain ⟨b, off, e, H⟩ := hc h0
  subst e
  refine ⟨b, off, rfl, fun i hi => ?_⟩
  rw [← H i hi]
  have := hk _ _ _ rfl h0
  simp only at this
  simp only [World.cell?, this]
theorem own_keep {w w' : World} {base : Nat} {e : TypeId} {size n : Nat} {v : Value} {xs : List Value} (h : w.ownsRow base e size v n xs) (hk : ∀ k, v.ownBlock = some k → w'.heap[k]? = w.heap[k]?) : w'.ownsRow base e size v n xs := by
  refine ⟨h.1, ?_⟩
  rcases h.2 with h1 | ⟨g, cap, cur, h1, h2, h3, h4⟩
  · exact .inl h1
  · subst h1
    exact .inr ⟨g, cap, cur, rfl, h2, (hk g rfl).trans h3, h4⟩
/-- What there is lies here. -/
structure GAt (base : Nat) (w : World) (c : GenC) (R : GR) (G : GenW) : Prop where
  cells : w.heap[R.g]? = some (.cells (wcells c R G.now) 65 (0, 0))
  src : Src w R.gs G.x
  ux : U64 G.x
  free : w.heap[R.gf]? = some (.cells (i64s G.free).toArray 3 (0, 0))
  freeN : G.free.length = c.procs.toNat
  gone : w.heap[R.gg]? = some (.cells (boolCells G.gone).toArray 4 (0, 0))
  goneN : G.gone.length = c.procs.toNat
  st : w.ownsRow base 23 1 (.slice (some ⟨R.gst, 0, none⟩) c.objects.toNat R.cst) c.objects.toNat R.svs
  stN : G.states.length = c.objects.toNat
  rows : ∀ i, i < c.objects.toNat → Ints w (R.svs.getD i (.slice none 0 0)) (G.states.getD i [])
  own : w.ownsRow base 52 11 R.lv G.l.length (opCells G.l)
  apart : R.g ≠ R.gs ∧ R.g ≠ R.gf ∧ R.g ≠ R.gg ∧ R.g ≠ R.gst ∧ R.gs ≠ R.gf ∧ R.gs ≠ R.gg ∧ R.gs ≠ R.gst ∧ R.gf ≠ R.gg ∧ R.gf ≠ R.gst ∧ R.gg ≠ R.gst
  lvd : ∀ k, R.lv.ownBlock = some k → k ≠ R.g ∧ k ≠ R.gs ∧ k ≠ R.gf ∧ k ≠ R.gg ∧ k ≠ R.gst
  rowd : ∀ i, i < c.objects.toNat → ∀ a n m, R.svs.getD i (.slice none 0 0) = .slice (some a) n m → 0 < n → a.block < w.heap.size ∧ a.block ≠ R.g ∧ a.block ≠ R.gs ∧ a.block ≠ R.gf ∧ a.block ≠ R.gg ∧ a.block ≠ R.gst ∧ R.lv.ownBlock ≠ some a.block
  lo : base ≤ R.g ∧ base ≤ R.gs ∧ base ≤ R.gf ∧ base ≤ R.gg
theorem GAt.grow {base : Nat} {w w' : World} {c : GenC} {R : GR} {G : GenW} (h : GAt base w c R G) (hg : Grow w w') : GAt base w' c R G where
  cells := hg.heap h.cells
  src := hg.heap h.src
  ux := h.ux
  free := hg.heap h.free
  freeN := h.freeN
  gone := hg.heap h.gone
  goneN := h.goneN
  st := own_keep h.st (fun k hk => hg.block k (h.st.lt k hk).2)
  stN := h.stN
  rows := fun i hi => (h.rows i hi).grow hg
  own := own_keep h.own (fun k hk => hg.block k (h.own.lt k hk).2)
  apart := h.apart
  lvd := h.lvd
  rowd := fun i hi a n m e e0 => by
    obtain ⟨h1, h2⟩ := h.rowd i hi a n m e e0
    exact ⟨Nat.lt_of_lt_of_le h1 hg.size, h2⟩
  lo := h.lo
/-- The source has gone on. -/
theorem GAt.next {base : Nat} {w w' : World} {c : GenC} {R : GR} {G : GenW} {x : Int} (h : GAt base w c R G) (ho : Only R.gs w w') (hs : Src w' R.gs x) (hx : U64 x) : GAt base w' c R { G with x := x } := by
  obtain ⟨a1, a2, a3, a4, a5, a6, a7, a8, a9, a10⟩ := h.apart
  exact {
    cells := (ho.block _ a1).trans h.cells
    src := hs
    ux := hx
    free := (ho.block _ (fun e => a5 e.symm)).trans h.free
    freeN := h.freeN
    gone := (ho.block _ (fun e => a6 e.symm)).trans h.gone
    goneN := h.goneN
    st := own_keep h.st (fun k hk => ho.block k (fun e => by have e2 : R.gst = k := Option.some.inj hk; exact a7 (e.symm.trans e2.symm)))
    stN := h.stN
    rows := fun i hi => (h.rows i hi).keep (fun a n m e e0 => ho.block _ (h.rowd i hi a n m e e0).2.2.1)
    own := own_keep h.own (fun k hk => ho.block k (h.lvd k hk).2.1)
    apart := h.apart
    lvd := h.lvd
    rowd := fun i hi a n m e e0 => by
      obtain ⟨h1, h2⟩ := h.rowd i hi a n m e e0
      exact ⟨by rw [ho.size]; exact h1, h2⟩
    lo := h.lo }
end Go.Proofs.Ytlhgdbangnohjaa
