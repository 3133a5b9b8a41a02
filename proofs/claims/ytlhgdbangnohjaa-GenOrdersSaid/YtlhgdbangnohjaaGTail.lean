/- One step of gen. What an object's first state is: the model's and the reference's. What lies in memory ahead of a history's first step. Which configs make a history: gen's good, and the reference's Good. The history that a config makes: gen.History. A config that came in by value; the law's own turning of it; the reference's Good. What the laws ask of a history. A history that is made grows by one operation at most at each step. Who has an operation without an answer asks no more. What is asked for fits its object, and the answer fits it. The answers that are made fit, the wrong ones too. A history that is made may be: plainly. How many operations are asked for does not show in the steps. An edit of a history, plainly. Two histories of the same operations are equal; what is in one behind an edit. What is in a history once one is taken out, set, put in. Two operations that may stand beside one another: what a history asks, pair by pair. Every history that is made may be: plainly. The reference's Ops, at two equal lists. -/
import Derived.Test.YtlhgdbangnohjaaGStepT
import Derived.Test.YtlhgdbangnohjaaMNumber
import Derived.Test.YtlhgdbangnohjaaGStepU
import Derived.Deep.AppendLies
import Derived.Test.YtlhgdbangnohjaaGSmall
import Derived.Test.YtlhgdbangnohjaaOpLift
import Derived.Test.YtlhgdbangnohjaaGenBelow
import Derived.Test.YtlhgdbangnohjaaMOps
import Derived.Test.YtlhgdbangnohjaaGStepOk
import Derived.Test.YtlhgdbangnohjaaHPlain
import Derived.Test.YtlhgdbangnohjaaOpEq
import Derived.Deep.QuietTactic
import Derived.BigQuiet
namespace Go.Proofs.Ytlhgdbangnohjaa
open Go.RowKit
set_option linter.unusedVariables false
set_option linter.unusedSimpArgs false
theorem step_c {base : Nat} {w : World} {c : GenC} {R : GR} {G : GenW} {k : Nat} (h : GAt base w c R G) (hcg : c.good) (hk : k ≤ 1000) (hok : GOk c G k) (id : Int) :
    Calls Try.prog 28 #[.pointer (some ⟨R.g, 0, none⟩), .int .i64 id] w (GStepPost base w c R.g (stepG c G id)) := by
  have hcg2 := hcg
  obtain ⟨h1, h16, h2, h26, -⟩ := hcg2
  cases hch : chooseL G.gone c.procs.toNat (belowV G.x c.procs).toNat c.procs.toNat 0 with
  | none =>
    refine (stepNone_c h h1 h16 id hch).mono ?_
    rintro e w' ⟨⟨v, hv⟩, hg, hb⟩
    exact .intro R hv rfl hg hb
  | some p =>
    have b1 := belowV_lo (x := nxt G.x) (n := c.objects) h2
    obtain ⟨n, hn⟩ : ∃ n : Nat, belowV (nxt G.x) c.objects = (n : Int) := ⟨(belowV (nxt G.x) c.objects).toNat, by omega⟩
    cases hr : askL (nxt (nxt G.x)) id p (belowV (nxt G.x) c.objects) with
    | mk y o =>
      cases hq : turnV G o n with
      | mk q b => exact step1_c h hcg hk hok id p hch y o hr n hn q b hq
end Go.Proofs.Ytlhgdbangnohjaa
namespace Go.Proofs.Ytlhgdbangnohjaa
open Go.RowKit
set_option linter.unusedVariables false
set_option linter.unusedSimpArgs false
set_option maxRecDepth 100000 in
theorem FirstRow1 (w : World) : Calls Try.prog 26 #[.int .i64 1] w fun e w' => ∃ g, e = .returned (.slice (some ⟨g, 0, none⟩) 1 1) ∧ w'.heap[g]? = some (.cells #[.int .i64 0] 3 (0, 0)) ∧ Grow w w' := by
  go_enter Try.func26, Try.ntmps26
  go_wp2_with fail
  go_ret
  exact ⟨_, rfl, heap_new w _, Grow.alloc _ _⟩
set_option maxRecDepth 100000 in
theorem FirstRow2 (w : World) : Calls Try.prog 26 #[.int .i64 2] w fun e w' => ∃ g, e = .returned (.slice (some ⟨g, 0, none⟩) 1 1) ∧ w'.heap[g]? = some (.cells #[.int .i64 0] 3 (0, 0)) ∧ Grow w w' := by
  go_enter Try.func26, Try.ntmps26
  go_wp2_with fail
  go_ret
  exact ⟨_, rfl, heap_new w _, Grow.alloc _ _⟩
set_option maxRecDepth 100000 in
theorem FirstNil (k : Int) (w : World) (h1 : ¬ k = 1) (h2 : ¬ k = 2) : Calls Try.prog 26 #[.int .i64 k] w fun e w' => e = .returned (.slice none 0 0) ∧ Grow w w' := by
  have q1 : (k == 1) = false := by simpa using h1
  have q2 : (k == 2) = false := by simpa using h2
  clear h1 h2
  go_enter Try.func26, Try.ntmps26
  go_wp2_with fail
  go_ret
  exact ⟨rfl, Grow.refl _⟩
set_option maxRecDepth 100000 in
theorem RFirstRow1 (w : World) : Calls Try.prog 29 #[.int .i64 1] w fun e w' => ∃ g, e = .returned (.slice (some ⟨g, 0, none⟩) 1 1) ∧ w'.heap[g]? = some (.cells #[.int .i64 0] 3 (0, 0)) ∧ Grow w w' := by
  go_enter Try.func29, Try.ntmps29
  go_wp2_with fail
  go_ret
  exact ⟨_, rfl, heap_new w _, Grow.alloc _ _⟩
set_option maxRecDepth 100000 in
theorem RFirstRow2 (w : World) : Calls Try.prog 29 #[.int .i64 2] w fun e w' => ∃ g, e = .returned (.slice (some ⟨g, 0, none⟩) 1 1) ∧ w'.heap[g]? = some (.cells #[.int .i64 0] 3 (0, 0)) ∧ Grow w w' := by
  go_enter Try.func29, Try.ntmps29
  go_wp2_with fail
  go_ret
  exact ⟨_, rfl, heap_new w _, Grow.alloc _ _⟩
set_option maxRecDepth 100000 in
theorem RFirstNil (k : Int) (w : World) (h1 : ¬ k = 1) (h2 : ¬ k = 2) : Calls Try.prog 29 #[.int .i64 k] w fun e w' => e = .returned (.slice none 0 0) ∧ Grow w w' := by
  have q1 : (k == 1) = false := by simpa using h1
  have q2 : (k == 2) = false := by simpa using h2
  clear h1 h2
  go_enter Try.func29, Try.ntmps29
  go_wp2_with fail
  go_ret
  exact ⟨rfl, Grow.refl _⟩
end Go.Proofs.Ytlhgdbangnohjaa
namespace Go.Proofs.Ytlhgdbangnohjaa
open Go.RowKit
set_option linter.unusedVariables false
set_option linter.unusedSimpArgs false
/-- The first state of an object. -/
def firstV (i : Nat) : List Int := if i % 6 + 1 = 1 ∨ i % 6 + 1 = 2 then [0] else []
def pcells (c : GenC) (gs gf gg : Nat) (sv : Value) : Array Value := #[.int .u64 c.seed, .int .i64 c.procs, .int .i64 c.objects, .int .i64 c.ops, .int .i64 c.wrong, .int .i64 c.pending, .pointer (some ⟨gs, 0, none⟩),
  .slice (some ⟨gf, 0, none⟩) c.procs.toNat c.procs.toNat, .slice (some ⟨gg, 0, none⟩) c.procs.toNat c.procs.toNat, sv, .int .i64 0, .slice none 0 0]
structure GPre (base : Nat) (w : World) (c : GenC) (g gs gf gg : Nat) (sv : Value) (svs : List Value) (X : Int) (k : Nat) : Prop where
  cells : w.heap[g]? = some (.cells (pcells c gs gf gg sv) 65 (0, 0))
  src : Src w gs X
  ux : U64 X
  free : w.heap[gf]? = some (.cells (i64s (List.replicate c.procs.toNat 0)).toArray 3 (0, 0))
  gone : w.heap[gg]? = some (.cells (boolCells (List.replicate c.procs.toNat false)).toArray 4 (0, 0))
  st : w.ownsRow base 23 1 sv k svs
  rows : ∀ i, i < k → Ints w (svs.getD i (.slice none 0 0)) (firstV i)
  apart : g ≠ gs ∧ g ≠ gf ∧ g ≠ gg ∧ gs ≠ gf ∧ gs ≠ gg ∧ gf ≠ gg
  svd : ∀ q, sv.ownBlock = some q → q ≠ g ∧ q ≠ gs ∧ q ≠ gf ∧ q ≠ gg
  rowd : ∀ i, i < k → ∀ a n m, svs.getD i (.slice none 0 0) = .slice (some a) n m → 0 < n → a.block < w.heap.size ∧ a.block ≠ g ∧ a.block ≠ gs ∧ a.block ≠ gf ∧ a.block ≠ gg ∧ sv.ownBlock ≠ some a.block
  lo : base ≤ g ∧ base ≤ gs ∧ base ≤ gf ∧ base ≤ gg
section
variable {base : Nat} {w w' : World} {c : GenC} {g gs gf gg : Nat} {sv : Value} {svs : List Value} {X : Int} {k : Nat}
theorem GPre.grow (h : GPre base w c g gs gf gg sv svs X k) (hg : Grow w w') : GPre base w' c g gs gf gg sv svs X k where
  cells := hg.heap h.cells
  src := hg.heap h.src
  ux := h.ux
  free := hg.heap h.free
  gone := hg.heap h.gone
  st := own_keep h.st (fun k hk => hg.block k (h.st.lt k hk).2)
  rows := fun i hi => (h.rows i hi).grow hg
  apart := h.apart
  svd := h.svd
  rowd := fun i hi a n m e e0 => by
    obtain ⟨h1, h2⟩ := h.rowd i hi a n m e e0
    exact ⟨Nat.lt_of_lt_of_le h1 hg.size, h2⟩
  lo := h.lo
theorem GPre.base_le (h : GPre base w c g gs gf gg sv svs X k) : base ≤ w.heap.size := Nat.le_trans h.lo.1 (Nat.le_of_lt (heap_lt h.cells))
theorem GPre.gcells (h : GPre base w c g gs gf gg sv svs X k) (hg : w.grownBy w' sv.ownBlock) : w'.heap[g]? = some (.cells (pcells c gs gf gg sv) 65 (0, 0)) :=
  (hg.block g (heap_lt h.cells) (fun e => (h.svd g e.symm).1 rfl)).trans h.cells
theorem GPre.pushedB {w0 : World} (h : GPre base w c g gs gf gg sv svs X k) (hb : Below base w0 w) (hg : w.grownBy w' sv.ownBlock) : Below base w0 w' :=
  Below.grown hb hg h.base_le (fun k hk => (h.st.lt k hk).1)
theorem GPre.rowNew (h : GPre base w c g gs gf gg sv svs X k) {v : Value} {xs : List Int} (hv : IntsF w.heap.size w' v xs) : ∀ a n m, v = .slice (some a) n m → 0 < n → a.block < w'.heap.size ∧ a.block ≠ g ∧ a.block ≠ gs ∧ a.block ≠ gf ∧ a.block ≠ gg ∧ sv.ownBlock ≠ some a.block := fun a n m e e0 => by
  have h1 := heap_lt h.cells
  have h2 := heap_lt h.src
  have h3 := heap_lt h.free
  have h4 := heap_lt h.gone
  have e1 := hv.2 a n m e
  obtain ⟨p, cap, e2, hl, hc, hn⟩ := hv.1
  rw [e2] at e
  cases e
  obtain ⟨b, off, e3, e4⟩ := hc e0
  cases e3
  have := World.block_lt_of_cell? w' _ (e4 0 e0)
  dsimp only at this e1 ⊢
  refine ⟨this, by omega, by omega, by omega, by omega, fun e5 => ?_⟩
  have := (h.st.lt _ e5).2
  omega
theorem getD_snoc (l : List Value) (x z : Value) (i : Nat) : (l ++ [x]).getD i z = if i = l.length then x else l.getD i z := by
  simp only [List.getD_eq_getElem?_getD, List.getElem?_append]
  by_cases h : i < l.length
  · rw [if_pos h, if_neg (by omega)]
  · rw [if_neg h]
    by_cases h2 : i = l.length
    · rw [if_pos h2, h2, Nat.sub_self]
      rfl
    · rw [if_neg h2, List.getElem?_eq_none (by simp; omega), List.getElem?_eq_none (by omega)]
theorem GPre.push (h : GPre base w c g gs gf gg sv svs X k) (rv : Value) {b cap : Nat} (ho : w'.ownsRow base 23 1 (.slice (some ⟨b, 0, none⟩) (k + 1) cap) (k + 1) (svs ++ [rv])) (hg : w.grownBy w' sv.ownBlock) (hat : sv.ownBlock = some b ∨ b = w.heap.size)
    (hr : Ints w rv (firstV k)) (hrd : ∀ a n m, rv = .slice (some a) n m → 0 < n → a.block < w.heap.size ∧ a.block ≠ g ∧ a.block ≠ gs ∧ a.block ≠ gf ∧ a.block ≠ gg ∧ sv.ownBlock ≠ some a.block) :
    GPre base (w'.setCell ⟨g, 9, none⟩ (.slice (some ⟨b, 0, none⟩) (k + 1) cap)) c g gs gf gg (.slice (some ⟨b, 0, none⟩) (k + 1) cap) (svs ++ [rv]) X (k + 1) := by
  obtain ⟨a1, a2, a3, a4, a5, a6⟩ := h.apart
  have hl1 := heap_lt h.cells
  have hl2 := heap_lt h.src
  have hl3 := heap_lt h.free
  have hl4 := heap_lt h.gone
  have ho2 := only_set w' g 9 (.slice (some ⟨b, 0, none⟩) (k + 1) cap)
  have hk : ∀ q, q < w.heap.size → sv.ownBlock ≠ some q → w'.heap[q]? = w.heap[q]? := fun q h1 h2 => hg.block q h1 (fun e => h2 e.symm)
  have hn : ∀ q, q = g ∨ q = gs ∨ q = gf ∨ q = gg → sv.ownBlock ≠ some q := fun q hq e => by
    obtain ⟨h1, h2, h3, h4⟩ := h.svd q e
    rcases hq with rfl | rfl | rfl | rfl
    · exact h1 rfl
    · exact h2 rfl
    · exact h3 rfl
    · exact h4 rfl
  have hb : b ≠ g ∧ b ≠ gs ∧ b ≠ gf ∧ b ≠ gg := by
    rcases hat with e | e
    · exact h.svd b e
    · exact ⟨by omega, by omega, by omega, by omega⟩
  have hsl : svs.length = k := by have := h.st.1; omega
  have hkeep : ∀ (v : Value) (xs : List Int), Ints w v xs → (∀ a n m, v = .slice (some a) n m → 0 < n → a.block < w.heap.size ∧ a.block ≠ g ∧ sv.ownBlock ≠ some a.block) → Ints (w'.setCell ⟨g, 9, none⟩ (.slice (some ⟨b, 0, none⟩) (k + 1) cap)) v xs := fun v xs hv hd =>
    hv.keep (fun a n m e e0 => by
      obtain ⟨d1, d2, d3⟩ := hd a n m e e0
      exact (ho2.block _ d2).trans (hk _ d1 d3))
  have hq : ∀ (v : Value), (∀ a n m, v = .slice (some a) n m → 0 < n → a.block < w.heap.size ∧ a.block ≠ g ∧ a.block ≠ gs ∧ a.block ≠ gf ∧ a.block ≠ gg ∧ sv.ownBlock ≠ some a.block) → ∀ a n m, v = .slice (some a) n m → 0 < n → a.block < (w'.setCell ⟨g, 9, none⟩ (.slice (some ⟨b, 0, none⟩) (k + 1) cap)).heap.size ∧ a.block ≠ g ∧ a.block ≠ gs ∧ a.block ≠ gf ∧ a.block ≠ gg ∧ (Value.slice (some ⟨b, 0, none⟩) (k + 1) cap).ownBlock ≠ some a.block := fun v hd a n m e e0 => by
    obtain ⟨d1, d2, d3, d4, d5, d6⟩ := hd a n m e e0
    refine ⟨by rw [ho2.size]; exact Nat.lt_of_lt_of_le d1 hg.size, d2, d3, d4, d5, fun e5 => ?_⟩
    have e6 : b = a.block := Option.some.inj e5
    rcases hat with e7 | e7
    · exact d6 (by rw [e7, e6])
    · omega
  exact {
    cells := heap_setV ((hk _ hl1 (hn _ (.inl rfl))).trans h.cells) 9 _ _ rfl
    src := (ho2.block _ (fun e => a1 e.symm)).trans ((hk _ hl2 (hn _ (.inr (.inl rfl)))).trans h.src)
    ux := h.ux
    free := (ho2.block _ (fun e => a2 e.symm)).trans ((hk _ hl3 (hn _ (.inr (.inr (.inl rfl))))).trans h.free)
    gone := (ho2.block _ (fun e => a3 e.symm)).trans ((hk _ hl4 (hn _ (.inr (.inr (.inr rfl))))).trans h.gone)
    st := own_keep ho (fun q e => ho2.block q (fun e2 => by
      have e3 : b = q := Option.some.inj e
      exact hb.1 (e3.trans e2)))
    rows := fun i hi => by
      rw [getD_snoc, hsl]
      by_cases e : i = k
      · rw [if_pos e, e]
        exact hkeep _ _ hr (fun a n m e e0 => by
          obtain ⟨d1, d2, d3, d4, d5, d6⟩ := hrd a n m e e0
          exact ⟨d1, d2, d6⟩)
      · rw [if_neg e]
        exact hkeep _ _ (h.rows i (by omega)) (fun a n m e e0 => by
          obtain ⟨d1, d2, d3, d4, d5, d6⟩ := h.rowd i (by omega) a n m e e0
          exact ⟨d1, d2, d6⟩)
    apart := h.apart
    svd := fun q e => by
      have e3 : b = q := Option.some.inj e
      rw [← e3]
      exact hb
    rowd := fun i hi => by
      rw [getD_snoc, hsl]
      by_cases e : i = k
      · rw [if_pos e]
        exact hq _ hrd
      · rw [if_neg e]
        exact hq _ (h.rowd i (by omega))
    lo := h.lo }
/-- All is ready for the first step. -/
theorem GPre.done (h : GPre base w c g gs gf gg sv svs X k) (hk : k = c.objects.toNat) (h0 : 0 < k) (hX : X = if c.seed = 0 then 1 else c.seed) : ∃ R : GR, R.g = g ∧ GAt base w c R (firstG c) := by
  obtain ⟨gst, cst, rfl, hb, hlt⟩ := h.st.form h0
  obtain ⟨a1, a2, a3, a4, a5, a6⟩ := h.apart
  obtain ⟨b1, b2, b3, b4⟩ := h.svd gst rfl
  have hst : ∀ i, i < k → (firstG c).states.getD i [] = firstV i := fun i hi => by
    simp only [firstG, firstV, List.getD_eq_getElem?_getD, List.getElem?_map, List.getElem?_range (show i < c.objects.toNat by omega)]
    rfl
  subst hk
  refine ⟨⟨g, gs, gf, gg, gst, cst, .slice none 0 0, svs⟩, rfl, ?_⟩
  exact {
    cells := h.cells
    src := by rw [show (firstG c).x = X from hX.symm]; exact h.src
    ux := by rw [show (firstG c).x = X from hX.symm]; exact h.ux
    free := h.free
    freeN := by simp [firstG]
    gone := h.gone
    goneN := by simp [firstG]
    st := h.st
    stN := by simp [firstG]
    rows := fun i hi => by rw [hst i hi]; exact h.rows i hi
    own := World.ownsRow_nil _ _ _ _
    apart := ⟨a1, a2, a3, Ne.symm b1, a4, a5, Ne.symm b2, a6, Ne.symm b3, Ne.symm b4⟩
    lvd := fun q e => by cases e
    rowd := fun i hi a n m e e0 => by
      obtain ⟨d1, d2, d3, d4, d5, d6⟩ := h.rowd i hi a n m e e0
      refine ⟨d1, d2, d3, d4, d5, fun e2 => d6 (by rw [e2]; rfl), fun e2 => by cases e2⟩
    lo := h.lo }
end
theorem made_row (z : Value) (n : Nat) : madeCells #[z] n = (List.replicate n z).toArray := by
  unfold madeCells
  apply Array.ext
  · simp
  · intro i h1 h2
    simp [Nat.mod_one]
theorem made_ints (n : Nat) : madeCells #[.int .i64 0] n = (i64s (List.replicate n 0)).toArray := by rw [made_row]; simp [i64s]
theorem made_bools (n : Nat) : madeCells #[.bool false] n = (boolCells (List.replicate n false)).toArray := by rw [made_row]; simp [boolCells]
theorem GPre.first {base : Nat} {w : World} {c : GenC} {g gs gf gg P : Nat} {N M X : Int} (hP : c.procs = (P : Int)) (hN : c.objects = N) (hM : c.ops = M)
    (hg : w.heap[g]? = some (.cells #[.int .u64 c.seed, .int .i64 (P : Int), .int .i64 N, .int .i64 M, .int .i64 c.wrong, .int .i64 c.pending, .pointer (some ⟨gs, 0, none⟩), .slice (some ⟨gf, 0, none⟩) P P, .slice (some ⟨gg, 0, none⟩) P P, .slice none 0 0, .int .i64 0, .slice none 0 0] 65 (0, 0)))
    (hs : w.heap[gs]? = some (.cells #[.int .u64 X] 59 (0, 0))) (hx : U64 X) (hf : w.heap[gf]? = some (.cells (madeCells #[.int .i64 0] P) 3 (0, 0))) (hb : w.heap[gg]? = some (.cells (madeCells #[.bool false] P) 4 (0, 0)))
    (ha : g ≠ gs ∧ g ≠ gf ∧ g ≠ gg ∧ gs ≠ gf ∧ gs ≠ gg ∧ gf ≠ gg) (hl : base ≤ g ∧ base ≤ gs ∧ base ≤ gf ∧ base ≤ gg) : GPre base w c g gs gf gg (.slice none 0 0) [] X 0 where
  cells := by
    rw [hg]
    unfold pcells
    rw [hP, hN, hM, Int.toNat_natCast]
  src := hs
  ux := hx
  free := by rw [hf, made_ints, hP, Int.toNat_natCast]
  gone := by rw [hb, made_bools, hP, Int.toNat_natCast]
  st := World.ownsRow_nil _ _ _ _
  rows := fun i hi => by omega
  apart := ha
  svd := fun q e => by cases e
  rowd := fun i hi => by omega
  lo := hl
theorem keep6 {w : World} {g : Nat} {v0 v1 v2 v3 v4 v5 : Value} (h : w.cell? ⟨g, 0, none⟩ = some v0 ∧ w.cell? ⟨g, 1, none⟩ = some v1 ∧ w.cell? ⟨g, 2, none⟩ = some v2 ∧ w.cell? ⟨g, 3, none⟩ = some v3 ∧ w.cell? ⟨g, 4, none⟩ = some v4 ∧ w.cell? ⟨g, 5, none⟩ = some v5) (o : Obj) : (w.alloc o).cell? ⟨g, 0, none⟩ = some v0 ∧ (w.alloc o).cell? ⟨g, 1, none⟩ = some v1 ∧ (w.alloc o).cell? ⟨g, 2, none⟩ = some v2 ∧ (w.alloc o).cell? ⟨g, 3, none⟩ = some v3 ∧ (w.alloc o).cell? ⟨g, 4, none⟩ = some v4 ∧ (w.alloc o).cell? ⟨g, 5, none⟩ = some v5 :=
  ⟨(Grow.alloc w o).cell h.1, (Grow.alloc w o).cell h.2.1, (Grow.alloc w o).cell h.2.2.1, (Grow.alloc w o).cell h.2.2.2.1, (Grow.alloc w o).cell h.2.2.2.2.1, (Grow.alloc w o).cell h.2.2.2.2.2⟩
theorem keep6d {w : World} {g : Nat} {v0 v1 v2 v3 v4 v5 : Value} (h : w.cell? ⟨g, 0, none⟩ = some v0 ∧ w.cell? ⟨g, 1, none⟩ = some v1 ∧ w.cell? ⟨g, 2, none⟩ = some v2 ∧ w.cell? ⟨g, 3, none⟩ = some v3 ∧ w.cell? ⟨g, 4, none⟩ = some v4 ∧ w.cell? ⟨g, 5, none⟩ = some v5) : w.drew.cell? ⟨g, 0, none⟩ = some v0 ∧ w.drew.cell? ⟨g, 1, none⟩ = some v1 ∧ w.drew.cell? ⟨g, 2, none⟩ = some v2 ∧ w.drew.cell? ⟨g, 3, none⟩ = some v3 ∧ w.drew.cell? ⟨g, 4, none⟩ = some v4 ∧ w.drew.cell? ⟨g, 5, none⟩ = some v5 := h
set_option maxRecDepth 100000 in
/-- The first state of an object, as model.First tells it. -/
theorem First_r (i : Nat) (w : World) : Calls Try.prog 26 #[.int .i64 ((i : Int) % 6 + 1)] w fun e w' => (∃ v, e = .returned v ∧ IntsF w.heap.size w' v (firstV i)) ∧ Grow w w' := by
  unfold firstV
  by_cases h1 : i % 6 + 1 = 1
  · rw [if_pos (.inl h1), show (i : Int) % 6 + 1 = 1 by omega]
    go_enter Try.func26, Try.ntmps26
    go_wp2_with fail
    go_ret
    exact ⟨⟨_, rfl, ints_row w [0] (by simp), Lies.at (Nat.le_refl _)⟩, Grow.alloc _ _⟩
  · by_cases h2 : i % 6 + 1 = 2
    · rw [if_pos (.inr h2), show (i : Int) % 6 + 1 = 2 by omega]
      go_enter Try.func26, Try.ntmps26
      go_wp2_with fail
      go_ret
      exact ⟨⟨_, rfl, ints_row w [0] (by simp), Lies.at (Nat.le_refl _)⟩, Grow.alloc _ _⟩
    · rw [if_neg (by omega)]
      refine (FirstNil ((i : Int) % 6 + 1) w (by omega) (by omega)).mono ?_
      rintro e w' ⟨rfl, hg⟩
      exact ⟨⟨_, rfl, IntsF.nil⟩, hg⟩
set_option maxRecDepth 100000 in
theorem New_x (s : Int) (w : World) : Calls Try.prog 9 #[.int .u64 s] w fun e w' => e = .returned (.pointer (some ⟨w.heap.size, 0, none⟩)) ∧ w' = w.alloc (.cells #[.int .u64 (if s = 0 then 1 else s)] 59) := by
  by_cases h : s = 0
  · subst h
    rw [if_pos rfl]
    go_enter Try.func9, Try.ntmps9
    go_wp2_with fail
    go_ret
    exact ⟨rfl, rfl⟩
  · rw [if_neg h]
    have h2 : (s == 0) = false := by simpa using h
    go_enter Try.func9, Try.ntmps9
    go_wp2_with fail
    go_ret
    exact ⟨rfl, rfl⟩
end Go.Proofs.Ytlhgdbangnohjaa
namespace Go.Proofs.Ytlhgdbangnohjaa
open Go.RowKit
set_option linter.unusedVariables false
set_option linter.unusedSimpArgs false
theorem percent_c (n : Int) (w : World) : Calls Try.prog 37 #[.int .i64 n] w fun e w' => e = .returned (.bool (decide (0 ≤ n ∧ n ≤ 100))) ∧ w = w' := by
  by_cases h0 : 0 ≤ n
  · by_cases h1 : n ≤ 100
    · rw [decide_eq_true ⟨h0, h1⟩]
      go_enter Try.func37, Try.ntmps37
      go_wp2_with fail
      go_ret
      exact ⟨rfl, rfl⟩
    · rw [decide_eq_false (fun h => h1 h.2)]
      go_enter Try.func37, Try.ntmps37
      go_wp2_with fail
      go_ret
      exact ⟨rfl, rfl⟩
  · rw [decide_eq_false (fun h => h0 h.1)]
    go_enter Try.func37, Try.ntmps37
    go_wp2_with fail
    go_ret
    exact ⟨rfl, rfl⟩
set_option maxRecDepth 100000 in
set_option maxHeartbeats 8000000 in
theorem good_c (c : GenC) (w : World) : Calls Try.prog 25 #[.agg #[.int .u64 c.seed, .int .i64 c.procs, .int .i64 c.objects, .int .i64 c.ops, .int .i64 c.wrong, .int .i64 c.pending]] w fun e w' => e = .returned (.bool (decide c.good)) ∧ Grow w w' := by
  obtain ⟨seed, procs, objects, ops, wrong, pending⟩ := c
  have HW := hid (fun w => percent_c wrong w)
  have HP := hid (fun w => percent_c pending w)
  have hd : ∀ (b : Bool), (b = true ↔ GenC.good ⟨seed, procs, objects, ops, wrong, pending⟩) → decide (GenC.good ⟨seed, procs, objects, ops, wrong, pending⟩) = b := fun b hb => by
    cases b
    · exact decide_eq_false (fun h => by have := hb.2 h; cases this)
    · exact decide_eq_true (hb.1 rfl)
  unfold GenC.good at hd
  dsimp only at hd
  have HD := hid hd
  clear hd
  unfold GenC.good
  dsimp only
  by_cases h1 : 1 ≤ procs
  · by_cases h2 : procs ≤ 16
    · by_cases h3 : 1 ≤ objects
      · by_cases h4 : objects ≤ 16
        · by_cases h5 : 0 ≤ ops
          · by_cases h6 : ops ≤ 64
            · by_cases h7 : 0 ≤ wrong ∧ wrong ≤ 100
              · rw [decide_eq_true h7] at HW
                have HW2 := hid h7
                clear h7
                by_cases h8 : 0 ≤ pending ∧ pending ≤ 100
                · rw [decide_eq_true h8] at HP
                  rw [HD.out true ⟨fun _ => ⟨h1, h2, h3, h4, h5, h6, HW2.out.1, HW2.out.2, h8.1, h8.2⟩, fun _ => rfl⟩]
                  clear h8
                  go_enter Try.func25, Try.ntmps25
                  go_wp2_with fail
                  refine (HW.out _).mono ?_
                  rintro e w1 ⟨rfl, rfl⟩
                  go_wp2_with fail
                  refine (HP.out _).mono ?_
                  rintro e w1 ⟨rfl, rfl⟩
                  go_wp2_with fail
                  go_ret
                  exact ⟨rfl, Grow.alloc _ _⟩
                · rw [decide_eq_false h8] at HP
                  rw [HD.out false ⟨(fun h => by cases h), fun h => (h8 ⟨h.2.2.2.2.2.2.2.2.1, h.2.2.2.2.2.2.2.2.2⟩).elim⟩]
                  clear h8
                  go_enter Try.func25, Try.ntmps25
                  go_wp2_with fail
                  refine (HW.out _).mono ?_
                  rintro e w1 ⟨rfl, rfl⟩
                  go_wp2_with fail
                  refine (HP.out _).mono ?_
                  rintro e w1 ⟨rfl, rfl⟩
                  go_wp2_with fail
                  go_ret
                  exact ⟨rfl, Grow.alloc _ _⟩
              · rw [decide_eq_false h7] at HW
                rw [HD.out false ⟨(fun h => by cases h), fun h => (h7 ⟨h.2.2.2.2.2.2.1, h.2.2.2.2.2.2.2.1⟩).elim⟩]
                clear h7
                go_enter Try.func25, Try.ntmps25
                go_wp2_with fail
                refine (HW.out _).mono ?_
                rintro e w1 ⟨rfl, rfl⟩
                go_wp2_with fail
                go_ret
                exact ⟨rfl, Grow.alloc _ _⟩
            · rw [HD.out false ⟨(fun h => by cases h), fun h => (h6 h.2.2.2.2.2.1).elim⟩]
              go_enter Try.func25, Try.ntmps25
              go_wp2_with fail
              go_ret
              exact ⟨rfl, Grow.alloc _ _⟩
          · rw [HD.out false ⟨(fun h => by cases h), fun h => (h5 h.2.2.2.2.1).elim⟩]
            go_enter Try.func25, Try.ntmps25
            go_wp2_with fail
            go_ret
            exact ⟨rfl, Grow.alloc _ _⟩
        · rw [HD.out false ⟨(fun h => by cases h), fun h => (h4 h.2.2.2.1).elim⟩]
          go_enter Try.func25, Try.ntmps25
          go_wp2_with fail
          go_ret
          exact ⟨rfl, Grow.alloc _ _⟩
      · rw [HD.out false ⟨(fun h => by cases h), fun h => (h3 h.2.2.1).elim⟩]
        go_enter Try.func25, Try.ntmps25
        go_wp2_with fail
        go_ret
        exact ⟨rfl, Grow.alloc _ _⟩
    · rw [HD.out false ⟨(fun h => by cases h), fun h => (h2 h.2.1).elim⟩]
      go_enter Try.func25, Try.ntmps25
      go_wp2_with fail
      go_ret
      exact ⟨rfl, Grow.alloc _ _⟩
  · rw [HD.out false ⟨(fun h => by cases h), fun h => (h1 h.1).elim⟩]
    go_enter Try.func25, Try.ntmps25
    go_wp2_with fail
    go_ret
    exact ⟨rfl, Grow.alloc _ _⟩
end Go.Proofs.Ytlhgdbangnohjaa
namespace Go.Proofs.Ytlhgdbangnohjaa
open Go.RowKit
set_option linter.unusedVariables false
set_option linter.unusedSimpArgs false
/-- What History tells. -/
def HistPost (base : Nat) (w : World) (r : List OpR × Int) (e : Ending) (w' : World) : Prop := ∃ v, e = .returned (.tuple #[v, .int .i64 r.2]) ∧ w'.ownsRow base 52 11 v r.1.length (opCells r.1) ∧ Below base w w'
theorem infoIntsG : Info Try.prog 23 (.slice none 0 0) 1 24 := by unfold Info; kernel_rfl
theorem infoIntG : Info Try.prog 3 (.int .i64 0) 1 8 := by unfold Info; kernel_rfl
theorem infoBoolG : Info Try.prog 4 (.bool false) 1 1 := by unfold Info; kernel_rfl
theorem own_mono {w : World} {base base' : Nat} {e : TypeId} {size n : Nat} {v : Value} {xs : List Value} (h : w.ownsRow base e size v n xs) (hb : base' ≤ base) : w.ownsRow base' e size v n xs := by
  refine ⟨h.1, ?_⟩
  rcases h.2 with h1 | ⟨g, cap, cur, h1, h2, h3⟩
  · exact .inl h1
  · exact .inr ⟨g, cap, cur, h1, Nat.le_trans hb h2, h3⟩
set_option maxRecDepth 100000 in
set_option maxHeartbeats 8000000 in
theorem HistoryBad_c (c : GenC) (hc : ¬ c.good) (w : World) : Calls Try.prog 17 #[.agg #[.int .u64 c.seed, .int .i64 c.procs, .int .i64 c.objects, .int .i64 c.ops, .int .i64 c.wrong, .int .i64 c.pending]] w (HistPost w.heap.size w (histG c)) := by
  have HGd := hid (fun w => good_c c w)
  rw [decide_eq_false hc] at HGd
  have hh : histG c = ([], 1) := by unfold histG; rw [if_neg hc]
  rw [hh]
  clear hh hc
  obtain ⟨seed, procs, objects, ops, wrong, pending⟩ := c
  go_enter Try.func17, Try.ntmps17
  go_wp2_with fail
  refine (HGd.out _).mono ?_
  rintro e w1 ⟨rfl, b1⟩
  have g1 : Grow w w1 := Grow.trans (Grow.alloc _ _) b1
  clear b1
  go_wp2_with fail
  go_ret2
  exact ⟨_, rfl, World.ownsRow_nil _ _ _ _, g1⟩
set_option maxRecDepth 100000 in
set_option maxHeartbeats 20000000 in
theorem HistoryGood_c (c : GenC) (hc : c.good) (hu : U64 c.seed) (w : World) : Calls Try.prog 17 #[.agg #[.int .u64 c.seed, .int .i64 c.procs, .int .i64 c.objects, .int .i64 c.ops, .int .i64 c.wrong, .int .i64 c.pending]] w (HistPost w.heap.size w (histG c)) := by
  have HGd := hid (fun w => good_c c w)
  rw [decide_eq_true hc] at HGd
  have HUS : Hid (U64 (if c.seed = 0 then 1 else c.seed)) := hid (seedV_u hu)
  clear hu
  have hh : histG c = ((stepsG c (firstG c) c.ops.toNat).l, 0) := by unfold histG; rw [if_pos hc]
  rw [hh]
  clear hh
  have HSt := hid (fun (base : Nat) (w : World) (R : GR) (k : Nat) (hk : k ≤ 64) (h : GAt base w c R (stepsG c (firstG c) k)) => step_c h hc (by omega) (steps_ok hc k hk) ((k : Int) + 1))
  have hc2 := hc
  obtain ⟨h1, h16, h2, h26, h3, h64, -⟩ := hc2
  have HCc := hid hc
  obtain ⟨P, hP⟩ : ∃ P : Nat, c.procs = (P : Int) := ⟨c.procs.toNat, by omega⟩
  obtain ⟨N, hN⟩ : ∃ N : Nat, c.objects = (N : Int) := ⟨c.objects.toNat, by omega⟩
  obtain ⟨M, hM⟩ : ∃ M : Nat, c.ops = (M : Int) := ⟨c.ops.toNat, by omega⟩
  have hMt : c.ops.toNat = M := by omega
  rw [hMt]
  have HPt := hid (show c.procs.toNat = P by omega)
  have HNt := hid (show c.objects.toNat = N by omega)
  have HP := hid hP
  have HN := hid hN
  have HM := hid hM
  have hN1 : 1 ≤ N := by omega
  have hN16 : N ≤ 16 := by omega
  have hP1 : 1 ≤ P := by omega
  have hP16 : P ≤ 16 := by omega
  have hM64 : M ≤ 64 := by omega
  rw [hP, hN, hM]
  rw [hP, hN, hM] at HGd
  clear hc h1 h16 h2 h26 h3 h64 hP hN hM hMt
  go_enter Try.func17, Try.ntmps17
  go_wp2_with fail
  refine (HGd.out _).mono ?_
  rintro e w1 ⟨rfl, b1⟩
  have g1 : Grow w w1 := Grow.trans (Grow.alloc _ _) b1
  have hb : w1.heap[w.heap.size]? = some (.cells #[.int .u64 c.seed, .int .i64 (P : Int), .int .i64 (N : Int), .int .i64 (M : Int), .int .i64 c.wrong, .int .i64 c.pending] 42 (0, 0)) := b1.heap (heap_new w _)
  have hz : w.heap.size < w1.heap.size := heap_lt hb
  have c0 : w1.cell? ⟨w.heap.size, 0, none⟩ = some (.int .u64 c.seed) := by rw [heap_cell hb]; rfl
  have c1 : w1.cell? ⟨w.heap.size, 1, none⟩ = some (.int .i64 (P : Int)) := by rw [heap_cell hb]; rfl
  have c2 : w1.cell? ⟨w.heap.size, 2, none⟩ = some (.int .i64 (N : Int)) := by rw [heap_cell hb]; rfl
  have c3 : w1.cell? ⟨w.heap.size, 3, none⟩ = some (.int .i64 (M : Int)) := by rw [heap_cell hb]; rfl
  have c4 : w1.cell? ⟨w.heap.size, 4, none⟩ = some (.int .i64 c.wrong) := by rw [heap_cell hb]; rfl
  have c5 : w1.cell? ⟨w.heap.size, 5, none⟩ = some (.int .i64 c.pending) := by rw [heap_cell hb]; rfl
  have HCF := hid hb
  have HNew0 := fun w => New_x c.seed w
  generalize hX0 : (if c.seed = 0 then (1 : Int) else c.seed) = X0 at HNew0
  have HNew := hid HNew0
  have HX0 := hid hX0
  have HUX : Hid (U64 X0) := hid (by rw [← hX0]; exact HUS.out)
  clear HNew0 hX0
  clear b1 hb HGd
  go_upto_region 3 with fail
  go_cut [4] from 5 (fun s4 wr => ∃ g gs gf gg, s4 = .pointer (some ⟨g, 0, none⟩) ∧ GPre (w.heap.size + 1) wr c g gs gf gg (.slice none 0 0) [] X0 0 ∧ Grow w1 wr)
  case first =>
    have hmk1 := fun W => run_make_row' (P := Try.prog) 23 3 (.int .i64 0) 8 Try.underlying23 infoIntG rfl .i64 .i64 P (by omega) (by omega) W
    have hmk2 := fun W => run_make_row' (P := Try.prog) 62 4 (.bool false) 1 Try.underlying62 infoBoolG rfl .i64 .i64 P (by omega) (by omega) W
    --F
    have hc6 := And.intro c0 (And.intro c1 (And.intro c2 (And.intro c3 (And.intro c4 c5))))
    go_region_held3 (fun w' => w'.cell? ⟨w.heap.size, 0, none⟩ = some (.int .u64 c.seed) ∧ w'.cell? ⟨w.heap.size, 1, none⟩ = some (.int .i64 (P : Int)) ∧ w'.cell? ⟨w.heap.size, 2, none⟩ = some (.int .i64 (N : Int)) ∧ w'.cell? ⟨w.heap.size, 3, none⟩ = some (.int .i64 (M : Int)) ∧ w'.cell? ⟨w.heap.size, 4, none⟩ = some (.int .i64 c.wrong) ∧ w'.cell? ⟨w.heap.size, 5, none⟩ = some (.int .i64 c.pending))
      (first | (with_reducible exact keep6d hc6) | (with_reducible exact keep6 (by assumption) _) | (with_reducible exact keep6d (keep6 hc6 _)) | (with_reducible exact keep6d (keep6 (keep6 hc6 _) _)) | (with_reducible exact keep6d (keep6 (keep6 (keep6 hc6 _) _) _)) | (with_reducible exact keep6d (keep6 (keep6 (keep6 (keep6 hc6 _) _) _) _)))
      ((go_at_call 9
        refine (HNew.out _).mono ?_
        rintro e w2 ⟨rfl, rfl⟩))
    all_goals (go_wp2_with fail; go_meet)
    all_goals first
      | (refine ⟨w1.heap.size + 1 + 1 + 1, w1.heap.size, w1.heap.size + 1, w1.heap.size + 1 + 1, rfl, GPre.first HP.out HN.out HM.out ((Grow.drew _).heap (heap_newG0 _ _ (by simp))) ((Grow.drew _).heap (heap_alloc_keep (heap_alloc_keep (heap_alloc_keep (heap_new _ _) _) _) _)) HUX.out ((Grow.drew _).heap (heap_alloc_keep (heap_alloc_keep (heap_newG0 _ _ (by simp)) _) _)) ((Grow.drew _).heap (heap_alloc_keep (heap_newG0 _ _ (by simp)) _)) ⟨by omega, by omega, by omega, by omega, by omega, by omega⟩ ⟨by omega, by omega, by omega, by omega⟩, Grow.trans (Grow.trans (Grow.trans (Grow.trans (Grow.alloc _ _) (Grow.alloc _ _)) (Grow.alloc _ _)) (Grow.alloc _ _)) (Grow.drew _)⟩)
      | (refine ⟨w1.heap.size + 1 + 1 + 1, w1.heap.size, w1.heap.size + 1 + 1, w1.heap.size + 1, rfl, GPre.first HP.out HN.out HM.out ((Grow.drew _).heap (heap_newG0 _ _ (by simp))) ((Grow.drew _).heap (heap_alloc_keep (heap_alloc_keep (heap_alloc_keep (heap_new _ _) _) _) _)) HUX.out ((Grow.drew _).heap (heap_alloc_keep (heap_newG0 _ _ (by simp)) _)) ((Grow.drew _).heap (heap_alloc_keep (heap_alloc_keep (heap_newG0 _ _ (by simp)) _) _)) ⟨by omega, by omega, by omega, by omega, by omega, by omega⟩ ⟨by omega, by omega, by omega, by omega⟩, Grow.trans (Grow.trans (Grow.trans (Grow.trans (Grow.alloc _ _) (Grow.alloc _ _)) (Grow.alloc _ _)) (Grow.alloc _ _)) (Grow.drew _)⟩)
      | (refine ⟨w1.heap.size + 1 + 1 + 1, w1.heap.size + 1, w1.heap.size, w1.heap.size + 1 + 1, rfl, GPre.first HP.out HN.out HM.out ((Grow.drew _).heap (heap_newG0 _ _ (by simp))) ((Grow.drew _).heap (heap_alloc_keep (heap_alloc_keep (heap_newG0 _ _ (by simp)) _) _)) HUX.out ((Grow.drew _).heap (heap_alloc_keep (heap_alloc_keep (heap_alloc_keep (heap_new _ _) _) _) _)) ((Grow.drew _).heap (heap_alloc_keep (heap_newG0 _ _ (by simp)) _)) ⟨by omega, by omega, by omega, by omega, by omega, by omega⟩ ⟨by omega, by omega, by omega, by omega⟩, Grow.trans (Grow.trans (Grow.trans (Grow.trans (Grow.alloc _ _) (Grow.alloc _ _)) (Grow.alloc _ _)) (Grow.alloc _ _)) (Grow.drew _)⟩)
      | (refine ⟨w1.heap.size + 1 + 1 + 1, w1.heap.size + 1 + 1, w1.heap.size, w1.heap.size + 1, rfl, GPre.first HP.out HN.out HM.out ((Grow.drew _).heap (heap_newG0 _ _ (by simp))) ((Grow.drew _).heap (heap_alloc_keep (heap_newG0 _ _ (by simp)) _)) HUX.out ((Grow.drew _).heap (heap_alloc_keep (heap_alloc_keep (heap_alloc_keep (heap_new _ _) _) _) _)) ((Grow.drew _).heap (heap_alloc_keep (heap_alloc_keep (heap_newG0 _ _ (by simp)) _) _)) ⟨by omega, by omega, by omega, by omega, by omega, by omega⟩ ⟨by omega, by omega, by omega, by omega⟩, Grow.trans (Grow.trans (Grow.trans (Grow.trans (Grow.alloc _ _) (Grow.alloc _ _)) (Grow.alloc _ _)) (Grow.alloc _ _)) (Grow.drew _)⟩)
      | (refine ⟨w1.heap.size + 1 + 1 + 1, w1.heap.size + 1, w1.heap.size + 1 + 1, w1.heap.size, rfl, GPre.first HP.out HN.out HM.out ((Grow.drew _).heap (heap_newG0 _ _ (by simp))) ((Grow.drew _).heap (heap_alloc_keep (heap_alloc_keep (heap_newG0 _ _ (by simp)) _) _)) HUX.out ((Grow.drew _).heap (heap_alloc_keep (heap_newG0 _ _ (by simp)) _)) ((Grow.drew _).heap (heap_alloc_keep (heap_alloc_keep (heap_alloc_keep (heap_new _ _) _) _) _)) ⟨by omega, by omega, by omega, by omega, by omega, by omega⟩ ⟨by omega, by omega, by omega, by omega⟩, Grow.trans (Grow.trans (Grow.trans (Grow.trans (Grow.alloc _ _) (Grow.alloc _ _)) (Grow.alloc _ _)) (Grow.alloc _ _)) (Grow.drew _)⟩)
      | (refine ⟨w1.heap.size + 1 + 1 + 1, w1.heap.size + 1 + 1, w1.heap.size + 1, w1.heap.size, rfl, GPre.first HP.out HN.out HM.out ((Grow.drew _).heap (heap_newG0 _ _ (by simp))) ((Grow.drew _).heap (heap_alloc_keep (heap_newG0 _ _ (by simp)) _)) HUX.out ((Grow.drew _).heap (heap_alloc_keep (heap_alloc_keep (heap_newG0 _ _ (by simp)) _) _)) ((Grow.drew _).heap (heap_alloc_keep (heap_alloc_keep (heap_alloc_keep (heap_new _ _) _) _) _)) ⟨by omega, by omega, by omega, by omega, by omega, by omega⟩ ⟨by omega, by omega, by omega, by omega⟩, Grow.trans (Grow.trans (Grow.trans (Grow.trans (Grow.alloc _ _) (Grow.alloc _ _)) (Grow.alloc _ _)) (Grow.alloc _ _)) (Grow.drew _)⟩)
    --/F
  case rest =>
    obtain ⟨g, gs, gf, gg, e4, hpre, hgr⟩ := hcut
    subst e4
    have c2' := hgr.cell c2
    have HPre := hid hpre
    have HGr := hid hgr
    have hB1 : w.heap.size + 1 ≤ w1.heap.size := hz
    have c3w := hid c3
    obtain ⟨i0, hi0, hz0, hz1, hz2⟩ := info_parts infoIntsG
    clear c0 c1 c2 c3 c4 c5 HNew HUX hpre hgr
    go_wp2_with fail
    go_loopw [24] (fun i wr => ∃ (j : Nat) (sv : Value) (svs : List Value), j ≤ N ∧ i = .int .i64 (j : Int) ∧ Hid (GPre (w.heap.size + 1) wr c g gs gf gg sv svs X0 j) ∧ Hid (Below (w.heap.size + 1) w1 wr)) (fun i _ => N - (intOf i).toNat)
    case atStart => exact ⟨0, _, _, by omega, rfl, HPre, hid (HGr.out.below hB1)⟩
    case round =>
      obtain ⟨j, sv, svs, hj, rfl, HPr, HBe⟩ := hrel
      by_cases hlt : j < N
      · have hi1 : (j : Int) < (N : Int) := by omega
        have HKi := hid (fun w => kind_c (j : Int) (by omega) (by omega) w)
        have HFi := hid (fun w => First_r j w)
        obtain ⟨A, kc, hsf⟩ := own_formM HPr.out.st
        have c9 : wr.cell? ⟨g, 9, none⟩ = some sv := by rw [heap_cell HPr.out.cells]; rfl
        rw [hsf] at c9
        have HSF := hid hsf
        clear hsf
        generalize hK : (j : Int) % 6 + 1 = kd at *
        clear hK
        go_upto_region 7 with fail
        go_region_law
          ((first
            | (go_simp; go_at_call 27
               refine (HKi.out _).mono ?_
               rintro e wk ⟨rfl, rfl⟩)
            | (go_simp; go_at_call 26
               refine (HFi.out wr.drew).mono ?_
               rintro e w2 ⟨⟨v2, rfl, i2⟩, b2⟩
               have HI2 := hid i2
               obtain ⟨⟨p2, k2, rfl, -, -, -⟩, -⟩ := i2
               generalize (firstV j).length = LF at *
               have g2 := hid (Grow.trans (Grow.drew wr) b2)
               have c92 := g2.out.cell c9
               have cA := (Grow.alloc w2 (.cells #[.slice p2 LF k2] 23)).cell c92
               clear b2)
            | (refine step_append_lies _ rfl _ _ 63 rfl (w.heap.size + 1) 23 i0 _ 1 24 Try.underlying63 hi0 hz0 hz1 hz2 rfl (by omega) (.slice A j kc) j svs rfl (own_turn HSF.out (HPr.out.grow (Grow.trans g2.out (Grow.alloc w2 (.cells #[.slice p2 LF k2] 23)))).st) ⟨w2.heap.size, 0, none⟩ 1 1 [.slice p2 LF k2] rfl rfl (World.news_of_block (cs := #[.slice p2 LF k2]) (heap_new w2 _)) (by simp [Value.oneCell']) (by omega) (by unfold maxLen; omega) (by omega) (HPr.out.grow (Grow.trans g2.out (Grow.alloc w2 (.cells #[.slice p2 LF k2] 23)))).base_le _ rfl ?_
               intro b5 cap5 wn hown hgr hat hlt5
               rw [← HSF.out] at hgr hat
               have GP := HPr.out.grow (Grow.trans g2.out (Grow.alloc w2 (.cells #[.slice p2 LF k2] 23)))
               have rn := HPr.out.rowNew (w' := w2.alloc (.cells #[.slice p2 LF k2] 23)) ⟨HI2.out.1.grow (Grow.alloc _ _), HI2.out.2⟩
               have gn := hid (GP.push (.slice p2 LF k2) hown hgr hat (HI2.out.1.grow (Grow.alloc _ _)) rn)
               have bn := hid ((GP.pushedB (HBe.out.trans ((Grow.trans g2.out (Grow.alloc w2 (.cells #[.slice p2 LF k2] 23))).mono HPr.out.base_le)) hgr).setCell (p := ⟨g, 9, none⟩) HPr.out.lo.1 (.slice (some ⟨b5, 0, none⟩) (j + 1) cap5))
               have c9n : wn.cell? ⟨g, 9, none⟩ = some sv := heap_cell (GP.gcells hgr) 9
               have f9n : wn.frozen? ⟨g, 9, none⟩ = false := heap_frozen (GP.gcells hgr) 9 (by omega)
               clear GP rn hown hgr hat hlt5)))
        all_goals (go_wp2_with fail; go_roundw)
        all_goals first
          | (case rel => exact ⟨j + 1, _, _, by omega, by go_num, gn, bn⟩)
          | (case measure => simp [intOf]; omega)
      · have hjN : j = c.objects.toNat := by rw [HNt.out]; omega
        obtain ⟨R, hRg, hat⟩ := HPr.out.done hjN (by omega) HX0.out.symm
        have HRg := hid hRg
        have HAt := hid hat
        have c3' := (Below.cell HBe.out (p := ⟨w.heap.size, 3, none⟩) (by show w.heap.size < w.heap.size + 1; omega)).trans c3w.out
        have hi1 : ¬ (j : Int) < (N : Int) := by omega
        clear hRg hat HPr hjN
        go_wp2_with fail
        go_loopw [42] (fun i wr => ∃ (k : Nat) (R : GR), k ≤ M ∧ i = .int .i64 (k : Int) ∧ Hid (R.g = g) ∧ Hid (GAt (w.heap.size + 1) wr c R (stepsG c (firstG c) k)) ∧ Hid (Below (w.heap.size + 1) w1 wr)) (fun i _ => M - (intOf i).toNat)
        case atStart => exact ⟨0, R, by omega, rfl, HRg, HAt, HBe⟩
        case round =>
          clear HRg HAt HBe
          obtain ⟨k, R, hk, rfl, HRg, HGa, HBe⟩ := hrel
          by_cases hlt2 : k < M
          · have hi2 : (k : Int) < (M : Int) := by omega
            have hw : IntKind.i64.wrap ((k : Int) + 1) = (k : Int) + 1 := by rw [IntKind.wrap_i64]; omega
            have HS := hid (HSt.out _ _ R k (by omega) HGa.out)
            rw [HRg.out] at HS
            go_wp2_with fail
            refine (HS.out).mono ?_
            rintro e w2 ⟨⟨v, rfl⟩, ⟨R2, hg2, ga2⟩, bb2⟩
            have HR2 := hid hg2
            have HG2 := hid ga2
            have HB2 := hid (HBe.out.trans bb2)
            clear hg2 ga2 bb2 HS
            go_wp2_with fail
            go_roundw
            case rel => exact ⟨k + 1, R2, by omega, by go_num, HR2, HG2, HB2⟩
            case measure => simp [intOf]; omega
          · have hkM : k = M := by omega
            have hi2 : ¬ (k : Int) < (M : Int) := by omega
            obtain ⟨lA, lk, hlf⟩ := own_formM HGa.out.own
            have c11 := HGa.out.wc.2.2.2.2.2.2.2.2.2.2.2
            rw [HRg.out, hlf] at c11
            have HOw := hid (own_turn hlf HGa.out.own)
            have HKM := hid hkM
            generalize hLL : (stepsG c (firstG c) k).l.length = LL at c11
            have hfin : wr.ownsRow w.heap.size 52 11 (.slice lA LL lk) (stepsG c (firstG c) M).l.length (opCells (stepsG c (firstG c) M).l) := by
              rw [← HKM.out, ← hLL]
              exact own_mono HOw.out (Nat.le_succ _)
            have HF := hid hfin
            clear hlf hkM hLL hfin
            go_wp2_with fail
            go_ret2
            exact ⟨_, rfl, HF.out, Below.trans (show Below w.heap.size w w1 from g1) (HBe.out.mono (Nat.le_succ _))⟩
theorem History_c (c : GenC) (hu : U64 c.seed) (w : World) : Calls Try.prog 17 #[.agg #[.int .u64 c.seed, .int .i64 c.procs, .int .i64 c.objects, .int .i64 c.ops, .int .i64 c.wrong, .int .i64 c.pending]] w (HistPost w.heap.size w (histG c)) := by
  by_cases h : c.good
  · exact HistoryGood_c c h hu w
  · exact HistoryBad_c c h w
end Go.Proofs.Ytlhgdbangnohjaa
namespace Go.Proofs.Ytlhgdbangnohjaa
open Go.RowKit
set_option linter.unusedVariables false
set_option linter.unusedSimpArgs false
/-- A config's numbers are such as may be. -/
structure GenC.Fit (c : GenC) : Prop where
  seed : U64 c.seed
  procs : I64 c.procs
  objects : I64 c.objects
  ops : I64 c.ops
  wrong : I64 c.wrong
  pending : I64 c.pending
theorem array6 {α : Type} {cs : Array α} (h : cs.size = 6) : ∃ c0 c1 c2 c3 c4 c5, cs = #[c0, c1, c2, c3, c4, c5] := by
  obtain ⟨l⟩ := cs
  match l, h with
  | [c0, c1, c2, c3, c4, c5], _ => exact ⟨c0, c1, c2, c3, c4, c5, rfl⟩
set_option maxRecDepth 100000 in
theorem open_cfg {H : Type} {enc : TypeId × Value → H} {w : World} {base : Nat} {spare : Nat → Bool} {held : Bool} {r : Reach} {b0 : Nat} {v : Value} {d : DataW H} {p : List MemPlace}
    (hv : Value.okWide Try.prog w r b0 37 v) (h : DataW.Trod enc Try.prog w base spare held 37 v d p) : ∃ c : GenC, v = .agg #[.int .u64 c.seed, .int .i64 c.procs, .int .i64 c.objects, .int .i64 c.ops, .int .i64 c.wrong, .int .i64 c.pending] ∧ c.Fit := by
  obtain ⟨cs, rfl, hsz, hr⟩ := open_flat Try.underlying37 (by kernel_rfl) (by kernel_rfl) hv h
  obtain ⟨c0, c1, c2, c3, c4, c5, rfl⟩ := array6 (hsz.trans rfl)
  obtain ⟨n0, y0, h0⟩ := hr 0 _ _ rfl rfl
  obtain ⟨n1, y1, h1⟩ := hr 1 _ _ rfl rfl
  obtain ⟨n2, y2, h2⟩ := hr 2 _ _ rfl rfl
  obtain ⟨n3, y3, h3⟩ := hr 3 _ _ rfl rfl
  obtain ⟨n4, y4, h4⟩ := hr 4 _ _ rfl rfl
  obtain ⟨n5, y5, h5⟩ := hr 5 _ _ rfl rfl
  clear hr
  obtain ⟨a0, e0, -, w0⟩ := DataW.trod_int Try.underlying22 h0
  obtain ⟨a1, e1, -, w1⟩ := DataW.trod_int Try.underlying3 h1
  obtain ⟨a2, e2, -, w2⟩ := DataW.trod_int Try.underlying3 h2
  obtain ⟨a3, e3, -, w3⟩ := DataW.trod_int Try.underlying3 h3
  obtain ⟨a4, e4, -, w4⟩ := DataW.trod_int Try.underlying3 h4
  obtain ⟨a5, e5, -, w5⟩ := DataW.trod_int Try.underlying3 h5
  simp only [List.cons.injEq, and_true] at e0 e1 e2 e3 e4 e5
  subst e0 e1 e2 e3 e4 e5
  exact ⟨⟨a0, a1, a2, a3, a4, a5⟩, rfl, ⟨wf_u64 w0, wf_i64 w1, wf_i64 w2, wf_i64 w3, wf_i64 w4, wf_i64 w5⟩⟩
set_option maxRecDepth 100000 in
theorem of_c (c : GenC) (w : World) : Calls Try.prog 18 #[.agg #[.int .u64 c.seed, .int .i64 c.procs, .int .i64 c.objects, .int .i64 c.ops, .int .i64 c.wrong, .int .i64 c.pending]] w fun e w' => e = .returned (.agg #[.int .u64 c.seed, .int .i64 c.procs, .int .i64 c.objects, .int .i64 c.ops, .int .i64 c.wrong, .int .i64 c.pending]) ∧ Grow w w' := by
  obtain ⟨seed, procs, objects, ops, wrong, pending⟩ := c
  dsimp only
  go_enter Try.func18, Try.ntmps18
  go_wp2_with fail
  refine bodyPost_ret (results_rowG (fn := Try.f18) (p := 2) rfl _ _ (w.heap.size + 1) 42 _ (0, 0) _ rfl (heap_newG0 _ _ (by simp)) Try.underlying42 rfl (by kernel_rfl)) rfl ⟨rfl, Grow.trans (Grow.alloc _ _) (Grow.alloc _ _)⟩
set_option maxRecDepth 100000 in
set_option maxHeartbeats 8000000 in
theorem RGood_c (c : GenC) (w : World) : Calls Try.prog 21 #[.agg #[.int .u64 c.seed, .int .i64 c.procs, .int .i64 c.objects, .int .i64 c.ops, .int .i64 c.wrong, .int .i64 c.pending]] w fun e w' => e = .returned (.bool (decide c.good)) ∧ Grow w w' := by
  obtain ⟨seed, procs, objects, ops, wrong, pending⟩ := c
  have hd : ∀ (b : Bool), (b = true ↔ GenC.good ⟨seed, procs, objects, ops, wrong, pending⟩) → decide (GenC.good ⟨seed, procs, objects, ops, wrong, pending⟩) = b := fun b hb => by
    cases b
    · exact decide_eq_false (fun h => by have := hb.2 h; cases this)
    · exact decide_eq_true (hb.1 rfl)
  unfold GenC.good at hd
  dsimp only at hd
  have HD := hid hd
  clear hd
  unfold GenC.good
  dsimp only
  by_cases h1 : 1 ≤ procs
  · by_cases h2 : procs ≤ 16
    · by_cases h3 : 1 ≤ objects
      · by_cases h4 : objects ≤ 16
        · by_cases h5 : 0 ≤ ops
          · by_cases h6 : ops ≤ 64
            · by_cases h7 : 0 ≤ wrong
              · by_cases h8 : wrong ≤ 100
                · by_cases h9 : 0 ≤ pending
                  · by_cases h10 : pending ≤ 100
                    · rw [HD.out true ⟨fun _ => ⟨h1, h2, h3, h4, h5, h6, h7, h8, h9, h10⟩, fun _ => rfl⟩]
                      go_enter Try.func21, Try.ntmps21
                      go_wp2_with fail
                      go_ret
                      exact ⟨rfl, Grow.alloc _ _⟩
                    · rw [HD.out false ⟨(fun h => by cases h), fun h => (h10 h.2.2.2.2.2.2.2.2.2).elim⟩]
                      go_enter Try.func21, Try.ntmps21
                      go_wp2_with fail
                      go_ret
                      exact ⟨rfl, Grow.alloc _ _⟩
                  · rw [HD.out false ⟨(fun h => by cases h), fun h => (h9 h.2.2.2.2.2.2.2.2.1).elim⟩]
                    go_enter Try.func21, Try.ntmps21
                    go_wp2_with fail
                    go_ret
                    exact ⟨rfl, Grow.alloc _ _⟩
                · rw [HD.out false ⟨(fun h => by cases h), fun h => (h8 h.2.2.2.2.2.2.2.1).elim⟩]
                  go_enter Try.func21, Try.ntmps21
                  go_wp2_with fail
                  go_ret
                  exact ⟨rfl, Grow.alloc _ _⟩
              · rw [HD.out false ⟨(fun h => by cases h), fun h => (h7 h.2.2.2.2.2.2.1).elim⟩]
                go_enter Try.func21, Try.ntmps21
                go_wp2_with fail
                go_ret
                exact ⟨rfl, Grow.alloc _ _⟩
            · rw [HD.out false ⟨(fun h => by cases h), fun h => (h6 h.2.2.2.2.2.1).elim⟩]
              go_enter Try.func21, Try.ntmps21
              go_wp2_with fail
              go_ret
              exact ⟨rfl, Grow.alloc _ _⟩
          · rw [HD.out false ⟨(fun h => by cases h), fun h => (h5 h.2.2.2.2.1).elim⟩]
            go_enter Try.func21, Try.ntmps21
            go_wp2_with fail
            go_ret
            exact ⟨rfl, Grow.alloc _ _⟩
        · rw [HD.out false ⟨(fun h => by cases h), fun h => (h4 h.2.2.2.1).elim⟩]
          go_enter Try.func21, Try.ntmps21
          go_wp2_with fail
          go_ret
          exact ⟨rfl, Grow.alloc _ _⟩
      · rw [HD.out false ⟨(fun h => by cases h), fun h => (h3 h.2.2.1).elim⟩]
        go_enter Try.func21, Try.ntmps21
        go_wp2_with fail
        go_ret
        exact ⟨rfl, Grow.alloc _ _⟩
    · rw [HD.out false ⟨(fun h => by cases h), fun h => (h2 h.2.1).elim⟩]
      go_enter Try.func21, Try.ntmps21
      go_wp2_with fail
      go_ret
      exact ⟨rfl, Grow.alloc _ _⟩
  · rw [HD.out false ⟨(fun h => by cases h), fun h => (h1 h.1).elim⟩]
    go_enter Try.func21, Try.ntmps21
    go_wp2_with fail
    go_ret
    exact ⟨rfl, Grow.alloc _ _⟩
end Go.Proofs.Ytlhgdbangnohjaa
namespace Go.Proofs.Ytlhgdbangnohjaa
open Go.RowKit
set_option linter.unusedVariables false
set_option linter.unusedSimpArgs false
theorem hist_len (c : GenC) : (histG c).1.length ≤ 64 := by
  unfold histG
  by_cases h : c.good
  · rw [if_pos h]
    have h2 := h
    obtain ⟨h1, h16, h2, h26, h3, h64, -⟩ := h2
    have := (steps_ok h c.ops.toNat (by omega)).len
    dsimp only
    omega
  · rw [if_neg h]
    simp
theorem own_cap {w : World} {base : Nat} {e : TypeId} {size n k m : Nat} {A : Option Addr} {xs : List Value} (h : w.ownsRow base e size (.slice A m k) n xs) : n ≤ k := by
  rcases h.2 with ⟨h1, h2⟩ | ⟨g, cap, cur, h1, h2, h3, h4, h5⟩
  · omega
  · cases h1
    exact h4
theorem Ops.front {w : World} {p : Option Addr} {n k : Nat} {l la : List OpR} (h : Ops w (.slice p n k) l) (hp : la <+: l) : Ops w (.slice p la.length k) la := by
  obtain ⟨p', cap, e, hl, hc⟩ := h
  cases e
  obtain ⟨t, rfl⟩ := hp
  simp only [List.length_append] at hl hc
  refine ⟨p, k, rfl, by omega, fun h0 => ?_⟩
  obtain ⟨b, off, e2, H⟩ := hc (by omega)
  refine ⟨b, off, e2, fun i hi => ?_⟩
  have := H i (by omega)
  rw [List.getElem_append_left hi] at this
  exact this
theorem Ops.keep {w w' : World} {B : Nat} {v : Value} {l : List OpR} (h : Ops w v l) (hl : Lies B v) (hk : ∀ k, B ≤ k → w'.heap[k]? = w.heap[k]?) : Ops w' v l := by
  obtain ⟨p, cap, rfl, hn, hc⟩ := h
  refine ⟨p, cap, rfl, hn, fun h0 => ?_⟩
  obtain ⟨b, off, rfl, H⟩ := hc h0
  have hb : B ≤ b := hl _ _ _ rfl
  have e : ∀ o v, w.cell? ⟨b, o, none⟩ = some v → w'.cell? ⟨b, o, none⟩ = some v := fun o v hv => by
    have := hk b hb
    simp only [World.cell?, this] at hv ⊢
    exact hv
  refine ⟨b, off, rfl, fun i hi => ?_⟩
  have h := H i hi
  unfold OpAt at h ⊢
  obtain ⟨h0, h1, h2, h3, h4, h5, h6, h7, h8, h9, h10⟩ := h
  exact ⟨e _ _ h0, e _ _ h1, e _ _ h2, e _ _ h3, e _ _ h4, e _ _ h5, e _ _ h6, e _ _ h7, e _ _ h8, e _ _ h9, e _ _ h10⟩
/-- What History tells, in the form that a law takes. -/
theorem HistPost.open {base : Nat} {w w' : World} {r : List OpR × Int} {e : Ending} (h : HistPost base w r e w') (hl : r.1.length ≤ 1600000000000) : ∃ A k, e = .returned (.tuple #[.slice A r.1.length k, .int .i64 r.2]) ∧ Ops w' (.slice A r.1.length k) r.1 ∧ Lies base (.slice A r.1.length k) ∧ r.1.length ≤ k ∧ Below base w w' := by
  obtain ⟨v, he, ho, hb⟩ := h
  obtain ⟨A, k, rfl⟩ := own_formM ho
  exact ⟨A, k, he, Ops.of_own ho hl, Lies.own ho, own_cap ho, hb⟩
theorem histG_good {c : GenC} (h : c.good) : histG c = ((stepsG c (firstG c) c.ops.toNat).l, 0) := by unfold histG; rw [if_pos h]
theorem histG_bad {c : GenC} (h : ¬ c.good) : histG c = ([], 1) := by unfold histG; rw [if_neg h]
end Go.Proofs.Ytlhgdbangnohjaa
namespace Go.Proofs.Ytlhgdbangnohjaa
open Go.RowKit
set_option linter.unusedVariables false
set_option linter.unusedSimpArgs false
/-- One that is laid behind is the one that was asked for, with its times and its answer. -/
theorem place_grows (c : GenC) (G : GenW) (o : OpR) : (placeG c G o).l = G.l ∨ ∃ q : OpR, (placeG c G o).l = G.l ++ [q] ∧ q.id = o.id ∧ q.proc = o.proc ∧ q.obj = o.obj ∧ q.kind = o.kind ∧ q.meth = o.meth ∧ q.arg = o.arg ∧ q.sec = o.sec := by
  unfold placeG
  dsimp only
  split
  · exact .inl rfl
  · split
    · exact .inr ⟨_, rfl, rfl, rfl, rfl, rfl, rfl, rfl, rfl⟩
    · refine .inr ⟨_, rfl, ?_⟩
      split
      · exact ⟨rfl, rfl, rfl, rfl, rfl, rfl, rfl⟩
      · exact ⟨rfl, rfl, rfl, rfl, rfl, rfl, rfl⟩
theorem stepA_grows (c : GenC) (G : GenW) (y : Int) (o : Option OpR) : (stepA c G y o).l = G.l ∨ ∃ (q r : OpR), o = some r ∧ (stepA c G y o).l = G.l ++ [q] ∧ q.id = r.id := by
  cases o with
  | none => exact .inl rfl
  | some r =>
    rcases place_grows c { G with x := y } r with h | ⟨q, h1, h2, -⟩
    · exact .inl h
    · exact .inr ⟨q, r, rfl, h1, h2⟩
theorem turnL_id {G : GenW} {o q : OpR} (h : turnL G o = some q) : q.id = o.id := by
  unfold turnL at h
  split at h
  · split at h
    · cases h; rfl
    · split at h
      · cases h
      · cases h; rfl
  · cases h; rfl
theorem step_grows (c : GenC) (G : GenW) (id : Int) : (stepG c G id).l = G.l ∨ ∃ q : OpR, (stepG c G id).l = G.l ++ [q] ∧ q.id = id := by
  cases hch : chooseL G.gone c.procs.toNat (belowV G.x c.procs).toNat c.procs.toNat 0 with
  | none =>
    rw [stepG_none hch]
    exact .inl rfl
  | some p =>
    rw [stepG_some hch rfl]
    rcases stepA_grows c G (askL (nxt (nxt G.x)) id p (belowV (nxt G.x) c.objects)).1 (turnL G (askL (nxt (nxt G.x)) id p (belowV (nxt G.x) c.objects)).2) with h | ⟨q, r, h1, h2, h3⟩
    · exact .inl h
    · refine .inr ⟨q, h2, ?_⟩
      rw [h3, turnL_id h1]
      have : ∀ (x obj : Int), (askL x id p obj).2.id = id := fun x obj => by
        unfold askL
        dsimp only
        repeat' split
        all_goals rfl
      exact this _ _
/-- The history of fewer steps is the beginning of that of more. -/
theorem steps_prefix (c : GenC) (G : GenW) (n : Nat) : ∀ m : Nat, (stepsG c G n).l <+: (stepsG c G (n + m)).l
  | 0 => List.prefix_refl _
  | m + 1 => by
    have ih := steps_prefix c G n m
    rcases step_grows c (stepsG c G (n + m)) (((n + m : Nat) : Int) + 1) with h | ⟨q, h, -⟩
    · exact h ▸ ih
    · have : (stepsG c G (n + (m + 1))).l = (stepsG c G (n + m)).l ++ [q] := h
      rw [this]
      exact ih.trans (List.prefix_append _ _)
/-- The operations' numbers rise, up to the steps' count. -/
theorem steps_ids (c : GenC) (G : GenW) (hG : G.l = []) : ∀ n : Nat, (stepsG c G n).l.Pairwise (fun a b => a.id < b.id) ∧ ∀ o ∈ (stepsG c G n).l, 1 ≤ o.id ∧ o.id ≤ (n : Int)
  | 0 => by
    have : (stepsG c G 0).l = [] := hG
    rw [this]
    exact ⟨List.Pairwise.nil, by simp⟩
  | n + 1 => by
    obtain ⟨h1, h2⟩ := steps_ids c G hG n
    rcases step_grows c (stepsG c G n) ((n : Int) + 1) with h | ⟨q, h, hq⟩
    · have e : (stepsG c G (n + 1)).l = (stepsG c G n).l := h
      rw [e]
      exact ⟨h1, fun o ho => ⟨(h2 o ho).1, by have := (h2 o ho).2; omega⟩⟩
    · have e : (stepsG c G (n + 1)).l = (stepsG c G n).l ++ [q] := h
      rw [e]
      refine ⟨?_, fun o ho => ?_⟩
      · rw [List.pairwise_append]
        refine ⟨h1, by simp, fun a ha b hb => ?_⟩
        simp only [List.mem_singleton] at hb
        subst hb
        have := (h2 a ha).2
        omega
      · simp only [List.mem_append, List.mem_singleton] at ho
        rcases ho with ho | rfl
        · exact ⟨(h2 o ho).1, by have := (h2 o ho).2; omega⟩
        · omega
end Go.Proofs.Ytlhgdbangnohjaa
namespace Go.Proofs.Ytlhgdbangnohjaa
open Go.RowKit
set_option linter.unusedVariables false
set_option linter.unusedSimpArgs false
structure Pend (c : GenC) (G : GenW) : Prop where
  gone : ∀ o ∈ G.l, o.done = false → G.gone.getD o.proc.toNat false = true
  last : G.l.Pairwise (fun a b => a.proc = b.proc → a.done = true)
  none : c.pending = 0 → ∀ o ∈ G.l, o.done = true
theorem turnL_gone {G : GenW} {o q : OpR} (h : turnL G o = some q) (ho : G.gone.getD o.proc.toNat false = false) : G.gone.getD q.proc.toNat false = false := by
  unfold turnL at h
  split at h
  · split at h
    · cases h; exact ho
    · split at h
      · cases h
      · rename_i hn
        cases h
        simpa using hn
  · cases h; exact ho
theorem getD_setGone (l : List Bool) (i p : Nat) (h : l.getD p false = true) : (l.set i true).getD p false = true := by
  rw [List.getD_eq_getElem?_getD] at h ⊢
  rw [List.getElem?_set]
  split
  · rename_i e
    subst e
    split
    · rfl
    · rename_i hn
      rw [List.getElem?_eq_none (by omega)] at h
      cases h
  · exact h
theorem pend_place {c : GenC} {G : GenW} (hc : 0 ≤ c.pending) (h : Pend c G) (o : OpR) (hp : o.proc.toNat < G.gone.length) (ho : G.gone.getD o.proc.toNat false = false) : Pend c (placeG c G o) := by
  have hnew : ∀ a ∈ G.l, a.proc = o.proc → a.done = true := fun a ha e => by
    cases hd : a.done with
    | true => rfl
    | false =>
      have := h.gone a ha hd
      rw [e, ho] at this
      cases this
  have hb := belowV_lo (x := nxt (nxt G.x)) (n := 100) (by decide)
  have pw : ∀ (q : OpR), q.proc = o.proc → (G.l ++ [q]).Pairwise (fun a b => a.proc = b.proc → a.done = true) := fun q hq => by
    rw [List.pairwise_append]
    refine ⟨h.last, by simp, fun a ha b hb => ?_⟩
    simp only [List.mem_singleton] at hb
    subst hb
    exact fun e => hnew a ha (e.trans hq)
  unfold placeG
  dsimp only
  split
  · exact ⟨h.gone, h.last, h.none⟩
  · split
    · rename_i hlt
      refine ⟨fun a ha hd => ?_, pw _ rfl, fun e => by omega⟩
      dsimp only at ha ⊢
      simp only [List.mem_append, List.mem_singleton] at ha
      rcases ha with ha | rfl
      · exact getD_setGone _ _ _ (h.gone a ha hd)
      · dsimp only
        rw [List.getD_eq_getElem?_getD, List.getElem?_set, if_pos rfl, if_pos hp]
        rfl
    · refine ⟨fun a ha hd => ?_, pw _ (by split <;> rfl), fun e a ha => ?_⟩
      · dsimp only at ha ⊢
        simp only [List.mem_append, List.mem_singleton] at ha
        rcases ha with ha | rfl
        · exact h.gone a ha hd
        · split at hd <;> cases hd
      · dsimp only at ha
        simp only [List.mem_append, List.mem_singleton] at ha
        rcases ha with ha | rfl
        · exact h.none e a ha
        · split <;> rfl
theorem Pend.x {c : GenC} {G : GenW} (h : Pend c G) (x : Int) : Pend c { G with x := x } := ⟨h.gone, h.last, h.none⟩
theorem pend_step {c : GenC} {G : GenW} {k : Nat} (hc : c.good) (hk : GOk c G k) (h : Pend c G) (id : Int) : Pend c (stepG c G id) := by
  obtain ⟨g1, g2, g3, g4, -, -, -, -, g5, -⟩ := hc
  cases hch : chooseL G.gone c.procs.toNat (belowV G.x c.procs).toNat c.procs.toNat 0 with
  | none =>
    rw [stepG_none hch]
    exact h.x _
  | some p =>
    obtain ⟨hp, hpg⟩ := chooseL_lt (by omega) _ _ _ hch
    have b1 := belowV_lo (x := nxt G.x) (n := c.objects) g3
    have b2 := belowV_hi (x := nxt G.x) (n := c.objects) g3
    obtain ⟨n, hn⟩ : ∃ n : Nat, belowV (nxt G.x) c.objects = (n : Int) := ⟨(belowV (nxt G.x) c.objects).toNat, by omega⟩
    have hnn : n < c.objects.toNat := by omega
    obtain ⟨a1, a2, a3, a4, a5⟩ := ask_ok (procs := c.procs) (nxt (nxt G.x)) id p (belowV (nxt G.x) c.objects) ⟨by omega, by omega⟩
    cases hr : askL (nxt (nxt G.x)) id p (belowV (nxt G.x) c.objects) with
    | mk y o =>
      rw [hr] at a1 a2 a3 a5
      rw [hn] at a2 a3
      rw [stepG_some hch hr]
      cases ht : turnL G o with
      | none => exact h.x y
      | some q =>
        obtain ⟨q1, q2, q3, q4⟩ := turn_ok hk o q n a1 a2 hnn a3 ht
        refine pend_place g5 (h.x y) q ?_ (turnL_gone ht (by dsimp only at a5; rw [a5]; simpa using hpg))
        have := hk.goneN
        have := q1.proc
        dsimp only
        omega
theorem pend_steps {c : GenC} (hc : c.good) : ∀ n : Nat, n ≤ 64 → Pend c (stepsG c (firstG c) n)
  | 0, _ => ⟨fun o ho => (by cases ho), List.Pairwise.nil, fun _ o ho => (by cases ho)⟩
  | n + 1, h => pend_step hc (steps_ok hc n (by omega)) (pend_steps hc n (by omega)) _
end Go.Proofs.Ytlhgdbangnohjaa
namespace Go.Proofs.Ytlhgdbangnohjaa
open Go.RowKit
set_option linter.unusedVariables false
set_option linter.unusedSimpArgs false
/-- A method of a kind. -/
theorem methodsL_fits {k : Int} (h1 : 1 ≤ k) (h6 : k ≤ 6) (t : Nat) (ht : t < (methodsL k).length) : fitsB k ((methodsL k).getD t 0) = true := by
  have : k = 1 ∨ k = 2 ∨ k = 3 ∨ k = 4 ∨ k = 5 ∨ k = 6 := by omega
  rcases this with rfl | rfl | rfl | rfl | rfl | rfl
  all_goals
    simp [methodsL] at ht
    have : t = 0 ∨ t = 1 ∨ t = 2 := by omega
    rcases this with rfl | rfl | rfl
    all_goals first | decide | omega
structure Fits (o : OpR) : Prop where
  fits : fitsB o.kind o.meth = true
  args : argsB o.meth o.arg o.sec = true
  done : o.done = false
  res : o.res = 0
  ret : o.ret = 0
theorem argsB_3 {a s : Int} (h1 : 0 ≤ a ∧ a ≤ 3) (h2 : 0 ≤ s ∧ s ≤ 3) : argsB 3 a s = true := by
  unfold argsB
  rw [decide_eq_true_eq]
  exact .inl ⟨rfl, h1.1, by omega, h2.1, by omega⟩
theorem argsB_one {m a : Int} (hm : m = 2 ∨ m = 6 ∨ m = 8 ∨ m = 10 ∨ m = 11 ∨ m = 12) (h1 : 0 ≤ a ∧ a ≤ 3) : argsB m a 0 = true := by
  unfold argsB
  rw [decide_eq_true_eq]
  exact .inr (.inl ⟨by omega, h1.1, by omega, rfl⟩)
theorem argsB_none {m : Int} (h3 : ¬ m = 3) (hm : ¬ (m = 2 ∨ m = 6 ∨ m = 8 ∨ m = 10 ∨ m = 11 ∨ m = 12)) : argsB m 0 0 = true := by
  unfold argsB
  rw [decide_eq_true_eq]
  exact .inr (.inr ⟨by omega, rfl, rfl⟩)
theorem ask_fits (x id p object : Int) (h0 : 0 ≤ object) : Fits (askL x id p object).2 := by
  have hk1 : 1 ≤ object % 6 + 1 := by omega
  have hk6 : object % 6 + 1 ≤ 6 := by omega
  have b1 := belowV_lo (x := nxt x) (n := 4) (by decide)
  have b2 := belowV_hi (x := nxt x) (n := 4) (by decide)
  have b3 := belowV_lo (x := nxt (nxt x)) (n := 4) (by decide)
  have b4 := belowV_hi (x := nxt (nxt x)) (n := 4) (by decide)
  have d1 : belowV (nxt x) 4 ≤ 3 := by omega
  have d2 : belowV (nxt (nxt x)) 4 ≤ 3 := by omega
  have hlen : 1 ≤ ((methodsL (object % 6 + 1)).length : Int) := by
    unfold methodsL
    repeat' split
    all_goals simp
  have c1 := belowV_lo (x := x) hlen
  have c2 := belowV_hi (x := x) hlen
  have hf := methodsL_fits hk1 hk6 (belowV x (methodsL (object % 6 + 1)).length).toNat (by omega)
  unfold askL
  dsimp only
  generalize (methodsL (object % 6 + 1)).getD (belowV x (methodsL (object % 6 + 1)).length).toNat 0 = m at *
  by_cases h3 : m = 3
  · rw [if_pos h3]
    subst h3
    exact ⟨hf, argsB_3 ⟨b1, d1⟩ ⟨b3, d2⟩, rfl, rfl, rfl⟩
  · rw [if_neg h3]
    by_cases hm : m = 2 ∨ m = 6 ∨ m = 8 ∨ m = 10 ∨ m = 11 ∨ m = 12
    · rw [if_pos hm]
      exact ⟨hf, argsB_one hm ⟨b1, d1⟩, rfl, rfl, rfl⟩
    · rw [if_neg hm]
      exact ⟨hf, argsB_none h3 hm, rfl, rfl, rfl⟩
theorem turn_fits {G : GenW} {o q : OpR} (hf : Fits o) (h : turnL G o = some q) : Fits q := by
  unfold turnL at h
  split at h
  · rename_i h6
    have hm : o.meth = 13 ∨ o.meth = 14 := by
      have := hf.fits
      unfold fitsB at this
      rw [decide_eq_true_eq] at this
      omega
    have ha : o.arg = 0 ∧ o.sec = 0 := by
      have := hf.args
      unfold argsB at this
      rw [decide_eq_true_eq] at this
      omega
    split at h
    · cases h
      exact ⟨by dsimp only; rw [h6]; decide, by dsimp only; rw [ha.1, ha.2]; decide, hf.done, hf.res, hf.ret⟩
    · split at h
      · cases h
      · cases h
        exact ⟨by dsimp only; rw [h6]; decide, by dsimp only; rw [ha.1, ha.2]; decide, hf.done, hf.res, hf.ret⟩
  · cases h; exact hf
end Go.Proofs.Ytlhgdbangnohjaa
namespace Go.Proofs.Ytlhgdbangnohjaa
open Go.RowKit
set_option linter.unusedVariables false
set_option linter.unusedSimpArgs false
def AnsOk (k m r : Int) : Prop := m = 1 ∧ (0 ≤ r ∧ r ≤ 3 ∨ k = 2 ∧ -1001 ≤ r ∧ r ≤ 1001) ∨ (m = 3 ∨ m = 10 ∨ m = 11 ∨ m = 12) ∧ (r = 0 ∨ r = 1) ∨ (m = 7 ∨ m = 9) ∧ -1 ≤ r ∧ r ≤ 3 ∨
  ¬ (m = 1 ∨ m = 3 ∨ m = 10 ∨ m = 11 ∨ m = 12 ∨ m = 7 ∨ m = 9) ∧ r = 0
theorem ans_res {k m r : Int} (h : AnsOk k m r) : resB k m r = true := by
  unfold AnsOk at h
  unfold resB
  rw [decide_eq_true_eq]
  omega
theorem ans_wrong {o : OpR} (h : AnsOk o.kind o.meth o.res) : resB o.kind o.meth (wrongL o) = true := by
  unfold AnsOk at h
  unfold resB wrongL
  rw [decide_eq_true_eq]
  split
  · omega
  · split <;> omega
theorem doL_ans {procs : Int} {k : Nat} {xs : List Int} {o : OpR} (hk : k ≤ 1000) (h : StOk o.kind procs k xs) (ha : AskOk procs o) (hf : fitsB o.kind o.meth = true) (hd : (doL xs o).2.2 = true) : AnsOk o.kind o.meth (doL xs o).2.1 := by
  unfold fitsB at hf
  rw [decide_eq_true_eq] at hf
  unfold doL at hd ⊢
  by_cases h12 : o.kind = 1 ∨ o.kind = 2
  · rw [if_pos h12] at hd ⊢
    by_cases hx : xs.length ≠ 1
    · rw [if_pos hx] at hd; cases hd
    rw [if_neg hx] at hd ⊢
    obtain ⟨x, rfl⟩ : ∃ x, xs = [x] := List.length_eq_one_iff.1 (by omega)
    simp only [List.getD_cons_zero] at hd ⊢
    have hb : 0 ≤ x ∧ x ≤ 3 ∨ o.kind = 2 ∧ -1001 ≤ x ∧ x ≤ 1001 := by
      rcases h12 with e | e
      · obtain ⟨y, h1, h2, h3⟩ := h.reg e
        cases h1
        exact .inl ⟨h2, h3⟩
      · obtain ⟨y, h1, h2, h3⟩ := h.cnt e
        cases h1
        exact .inr ⟨e, by omega, by omega⟩
    unfold numberL at hd ⊢
    unfold AnsOk
    revert hd
    repeat' split
    all_goals intro hd
    all_goals first
      | (cases hd; done)
      | (dsimp only; omega)
  rw [if_neg h12] at hd ⊢
  by_cases h34 : o.kind = 3 ∨ o.kind = 4
  · rw [if_pos h34] at hd ⊢
    obtain ⟨hl, hm⟩ := h.row h34
    have hat : ∀ i, i < xs.length → 0 ≤ xs.getD i 0 ∧ xs.getD i 0 ≤ 3 := fun i hi => by
      rw [List.getD_eq_getElem?_getD, List.getElem?_eq_getElem hi]
      exact hm _ (List.getElem_mem hi)
    have h0 : 0 < xs.length → 0 ≤ xs.getD 0 0 ∧ xs.getD 0 0 ≤ 3 := fun h => hat 0 h
    have h1 : 0 < xs.length → 0 ≤ xs.getD (xs.length - 1) 0 ∧ xs.getD (xs.length - 1) 0 ≤ 3 := fun h => hat _ (by omega)
    unfold listL at hd ⊢
    unfold AnsOk
    generalize xs.getD 0 0 = x0 at *
    generalize xs.getD (xs.length - 1) 0 = x1 at *
    revert hd
    repeat' split
    all_goals intro hd
    all_goals first
      | (cases hd; done)
      | (dsimp only; omega)
      | (dsimp only; split <;> omega)
  rw [if_neg h34] at hd ⊢
  by_cases h5 : o.kind = 5
  · rw [if_pos h5] at hd ⊢
    unfold setL at hd ⊢
    unfold AnsOk
    revert hd
    repeat' split
    all_goals intro hd
    all_goals first
      | (cases hd; done)
      | (dsimp only; omega)
      | (dsimp only; split <;> omega)
  rw [if_neg h5] at hd ⊢
  by_cases h6 : o.kind = 6
  · rw [if_pos h6] at hd ⊢
    unfold mutexL at hd ⊢
    unfold AnsOk
    revert hd
    repeat' split
    all_goals intro hd
    all_goals first
      | (cases hd; done)
      | (dsimp only; omega)
  · rw [if_neg h6] at hd; cases hd
end Go.Proofs.Ytlhgdbangnohjaa
namespace Go.Proofs.Ytlhgdbangnohjaa
open Go.RowKit
set_option linter.unusedVariables false
set_option linter.unusedSimpArgs false
theorem check_pend {o : OpR} (hf : Fits o) (h1 : 1 ≤ o.id ∧ o.id ≤ 64) (h2 : 0 ≤ o.proc ∧ o.proc ≤ 15) (h3 : 0 ≤ o.obj ∧ o.obj ≤ 15) (i : Int) (hi : 0 ≤ i ∧ i ≤ 10000) : checkE { o with inv := i } = 0 := by
  refine checkE_0 _ ?_ ?_ ?_
  · unfold bad1
    rw [decide_eq_false_iff_not]
    dsimp only
    omega
  · unfold bad2
    dsimp only
    rw [hf.fits, hf.args, hf.done, hf.res]
    simp
  · unfold bad3
    dsimp only
    rw [hf.done, hf.ret]
    simp
    omega
theorem check_done {o : OpR} (hf : Fits o) (h1 : 1 ≤ o.id ∧ o.id ≤ 64) (h2 : 0 ≤ o.proc ∧ o.proc ≤ 15) (h3 : 0 ≤ o.obj ∧ o.obj ≤ 15) (i r t : Int) (hi : 0 ≤ i ∧ i < t) (ht : t ≤ 10000) (hr : resB o.kind o.meth r = true) :
    checkE { o with inv := i, done := true, res := r, ret := t } = 0 := by
  refine checkE_0 _ ?_ ?_ ?_
  · unfold bad1
    rw [decide_eq_false_iff_not]
    dsimp only
    omega
  · unfold bad2
    dsimp only
    rw [hf.fits, hf.args, hr]
    simp
  · unfold bad3
    dsimp only
    simp
    omega
structure SoundG (G : GenW) : Prop where
  each : ∀ o ∈ G.l, checkE o = 0 ∧ o.kind = o.obj % 6 + 1
  time : ∀ o ∈ G.l, o.done = true → o.ret ≤ G.free.getD o.proc.toNat 0
  seq : G.l.Pairwise (fun a b => a.proc = b.proc → a.done = true ∧ a.ret < b.inv)
theorem SoundG.x {G : GenW} (h : SoundG G) (x : Int) : SoundG { G with x := x } := ⟨h.each, h.time, h.seq⟩
theorem imax_ge_l (a b : Int) : a ≤ imax a b := by unfold imax; split <;> omega
theorem imax_ge_r (a b : Int) : b ≤ imax a b := by unfold imax; split <;> omega
theorem set_ge (l : List Int) (i p : Nat) (x : Int) (hx : l.getD i 0 ≤ x) : l.getD p 0 ≤ (l.set i x).getD p 0 := by
  rw [List.getD_eq_getElem?_getD] at hx ⊢
  rw [List.getD_eq_getElem?_getD, List.getElem?_set]
  split
  · rename_i e
    subst e
    split
    · exact hx
    · rename_i hn
      rw [List.getElem?_eq_none (by omega)]
      exact Int.le_refl _
  · exact Int.le_refl _
theorem sound_place {c : GenC} {G : GenW} {k : Nat} (hk : k ≤ 64) (hg : GOk c G k) (hpd : Pend c G) (h : SoundG G) (o : OpR) (n : Nat) (ha : AskOk c.procs o) (hfit : Fits o) (hP : c.procs ≤ 16) (hO : c.objects ≤ 16)
    (hn : o.obj = (n : Int)) (hn2 : n < c.objects.toNat) (hkd : o.kind = (n : Int) % 6 + 1) (hid : 1 ≤ o.id ∧ o.id ≤ 64) (ho : G.gone.getD o.proc.toNat false = false) : SoundG (placeG c G o) := by
  obtain ⟨p1, p2⟩ := point_ok hg o
  have hfr := hg.free o.proc.toNat
  have hpc := ha.proc
  have hf1 : G.free.getD o.proc.toNat 0 + 1 ≤ pointV G o := by
    have := imax_ge_r G.now (G.free.getD o.proc.toNat 0)
    have := belowV_lo (x := G.x) (n := 4) (by decide)
    unfold pointV
    omega
  unfold placeG
  dsimp only
  rw [hn, Int.toNat_natCast]
  have hpt : imax G.now (G.free.getD o.proc.toNat 0) + 1 + belowV G.x 4 = pointV G o := rfl
  rw [hpt]
  have b8 := belowV_lo (x := nxt G.x) (n := 8) (by decide)
  have i1 := imax_ge_l (G.free.getD o.proc.toNat 0 + 1) (pointV G o - belowV (nxt G.x) 8)
  have i2 : imax (G.free.getD o.proc.toNat 0 + 1) (pointV G o - belowV (nxt G.x) 8) ≤ pointV G o := imax_le hf1 (by omega)
  generalize imax (G.free.getD o.proc.toNat 0 + 1) (pointV G o - belowV (nxt G.x) 8) = inv at *
  generalize pointV G o = pt at *
  have hans := fun hh => doL_ans (k := k) (o := { o with inv := inv }) (by omega) (by dsimp only; rw [hkd]; exact hg.st n hn2) ⟨ha.arg, ha.sec, ha.proc⟩ hfit.fits hh
  dsimp only at hans
  simp only [hn] at hans
  have c8 := belowV_lo (x := nxt (nxt (nxt G.x))) (n := 8) (by decide)
  have c8' := belowV_hi (x := nxt (nxt (nxt G.x))) (n := 8) (by decide)
  have hobj : 0 ≤ o.obj ∧ o.obj ≤ 15 := by omega
  have hprc : 0 ≤ o.proc ∧ o.proc ≤ 15 := by omega
  have hold : ∀ a ∈ G.l, a.proc = o.proc → a.done = true ∧ a.ret ≤ G.free.getD o.proc.toNat 0 := fun a ha e => by
    have hd : a.done = true := by
      cases hd : a.done with
      | true => rfl
      | false =>
        have := hpd.gone a ha hd
        rw [e, ho] at this
        cases this
    refine ⟨hd, ?_⟩
    have := h.time a ha hd
    rwa [e] at this
  have pw : ∀ (q : OpR), q.proc = o.proc → q.inv = inv → (G.l ++ [q]).Pairwise (fun a b => a.proc = b.proc → a.done = true ∧ a.ret < b.inv) := fun q hq hi => by
    rw [List.pairwise_append]
    refine ⟨h.seq, by simp, fun a ha b hb => ?_⟩
    simp only [List.mem_singleton] at hb
    subst hb
    intro e
    obtain ⟨h1, h2⟩ := hold a ha (e.trans hq)
    exact ⟨h1, by omega⟩
  split
  · exact ⟨h.each, h.time, h.seq⟩
  · rename_i hok
    have hok2 := hans (by simpa using hok)
    generalize (doL (G.states.getD n []) _).2.1 = r at *
    split
    · refine ⟨fun a ha2 => ?_, fun a ha2 hd => ?_, pw _ rfl rfl⟩
      · dsimp only at ha2
        simp only [List.mem_append, List.mem_singleton] at ha2
        rcases ha2 with ha2 | rfl
        · exact h.each a ha2
        · have := check_pend hfit hid hprc hobj inv ⟨by omega, by omega⟩
          simp only [hn] at this
          exact ⟨this, by dsimp only; exact hkd⟩
      · dsimp only at ha2 ⊢
        simp only [List.mem_append, List.mem_singleton] at ha2
        rcases ha2 with ha2 | rfl
        · exact h.time a ha2 hd
        · dsimp only at hd
          rw [hfit.done] at hd
          cases hd
    · have hset : ∀ t : Int, (G.free.set o.proc.toNat t).getD o.proc.toNat 0 = t := fun t => by
        rw [List.getD_eq_getElem?_getD, List.getElem?_set, if_pos rfl, if_pos (by rw [hg.freeN]; omega)]
        rfl
      have ck : ∀ r', resB o.kind o.meth r' = true → checkE { o with inv := inv, done := true, res := r', ret := pt + 1 + belowV (nxt (nxt (nxt G.x))) 8 } = 0 := fun r' hr => check_done hfit hid hprc hobj inv r' _ ⟨by omega, by omega⟩ (by omega) hr
      generalize belowV (nxt (nxt (nxt G.x))) 8 = b at *
      refine ⟨fun a ha2 => ?_, fun a ha2 hd => ?_, pw _ (by split <;> rfl) (by split <;> rfl)⟩
      · dsimp only at ha2
        simp only [List.mem_append, List.mem_singleton] at ha2
        rcases ha2 with ha2 | rfl
        · exact h.each a ha2
        · split
          · have hw := ans_wrong (o := { o with inv := inv, done := true, res := r, ret := pt + 1 + b }) hok2
            have := ck _ hw
            simp only [hn] at this
            exact ⟨this, by dsimp only; exact hkd⟩
          · have := ck r (ans_res hok2)
            simp only [hn] at this
            exact ⟨this, by dsimp only; exact hkd⟩
      · dsimp only at ha2 ⊢
        simp only [List.mem_append, List.mem_singleton] at ha2
        rcases ha2 with ha2 | rfl
        · exact Int.le_trans (h.time a ha2 hd) (set_ge _ _ _ _ (by omega))
        · split <;> (dsimp only; rw [hset]; exact Int.le_refl _)
end Go.Proofs.Ytlhgdbangnohjaa
namespace Go.Proofs.Ytlhgdbangnohjaa
open Go.RowKit
set_option linter.unusedVariables false
set_option linter.unusedSimpArgs false
theorem place_ops (c : GenC) (n : Int) (G : GenW) (o : OpR) : placeG { c with ops := n } G o = placeG c G o := rfl
theorem stepA_ops (c : GenC) (n : Int) (G : GenW) (y : Int) (o : Option OpR) : stepA { c with ops := n } G y o = stepA c G y o := by
  cases o <;> rfl
theorem stepB_ops (c : GenC) (n : Int) (G : GenW) (id : Int) (p : Option Nat) : stepB { c with ops := n } G id p = stepB c G id p := by
  cases p with
  | none => rfl
  | some p => exact stepA_ops c n G _ _
theorem steps_ops (c : GenC) (n : Int) (G : GenW) : ∀ k : Nat, stepsG { c with ops := n } G k = stepsG c G k
  | 0 => rfl
  | k + 1 => by
    have ih := steps_ops c n G k
    have h1 : stepsG { c with ops := n } G (k + 1) = stepB { c with ops := n } (stepsG { c with ops := n } G k) ((k : Int) + 1) (chooseL (stepsG { c with ops := n } G k).gone c.procs.toNat (belowV (stepsG { c with ops := n } G k).x c.procs).toNat c.procs.toNat 0) := rfl
    have h2 : stepsG c G (k + 1) = stepB c (stepsG c G k) ((k : Int) + 1) (chooseL (stepsG c G k).gone c.procs.toNat (belowV (stepsG c G k).x c.procs).toNat c.procs.toNat 0) := rfl
    rw [h1, h2, ih, stepB_ops]
theorem first_ops (c : GenC) (n : Int) : firstG { c with ops := n } = firstG c := rfl
/-- A history with more operations begins with the one with fewer. -/
theorem longer_law {c : GenC} {m : Int} (h1 : c.good) (hm : c.ops ≤ m) : (stepsG c (firstG c) c.ops.toNat).l <+: (stepsG { c with ops := m } (firstG { c with ops := m }) m.toNat).l := by
  have e : stepsG { c with ops := m } (firstG { c with ops := m }) m.toNat = stepsG c (firstG c) m.toNat := steps_ops c m (firstG c) m.toNat
  rw [e]
  have h := steps_prefix c (firstG c) c.ops.toNat (m.toNat - c.ops.toNat)
  rwa [show c.ops.toNat + (m.toNat - c.ops.toNat) = m.toNat by omega] at h
end Go.Proofs.Ytlhgdbangnohjaa
namespace Go.Proofs.Ytlhgdbangnohjaa
open Go.RowKit
set_option linter.unusedVariables false
/-- An operation as an edit makes it, and what is wrong with that. -/
def changedL (o : OpR) (k : Int) (e : OpR) : OpR × Int :=
  if k = 3 then ({ o with inv := e.inv, ret := e.ret }, 0)
  else if k = 4 then ({ o with meth := e.meth, arg := e.arg, sec := e.sec, res := e.res }, 0)
  else if k = 5 then (if o.done then (o, 8) else ({ o with done := true, res := e.res, ret := e.ret }, 0))
  else if k = 6 then (if o.done then ({ o with done := false, res := 0, ret := 0 }, 0) else (o, 8))
  else (o, 0)
theorem changedL_id (o : OpR) (k : Int) (e : OpR) : (changedL o k e).1.id = o.id := by
  unfold changedL
  repeat' split
  all_goals rfl
/-- What is behind an edit: the history, the operation before and behind, and what is wrong. -/
abbrev Edited := List OpR × OpR × OpR × Int
/-- What is wrong with an operation that is added. -/
def addE (l : List OpR) (o : OpR) (there : Bool) : Int :=
  if checkE o ≠ 0 then checkE o else if there then 7 else if besideE l o ≠ 0 then besideE l o else if 64 ≤ l.length then 34 else 0
def addL (l : List OpR) (o : OpR) (i : Nat) (there : Bool) : Edited :=
  if addE l o there ≠ 0 then ([], opZ, opZ, addE l o there) else (l.take i ++ o :: l.drop i, opZ, o, 0)
/-- What is wrong with an operation that is changed. -/
def setE (l : List OpR) (c : OpR × Int) : Int := if c.2 ≠ 0 then c.2 else if checkE c.1 ≠ 0 then checkE c.1 else besideE l c.1
def applyL (l : List OpR) (k : Int) (e : OpR) : Edited :=
  if k < 1 ∨ 6 < k then ([], opZ, opZ, 1)
  else if k = 1 then addL l e (placeL l e.id) (thereB l e.id)
  else if thereB l e.id = false then ([], opZ, opZ, 6)
  else if k = 2 then (l.take (placeL l e.id) ++ l.drop (placeL l e.id + 1), opAt l (placeL l e.id), opZ, 0)
  else if setE l (changedL (opAt l (placeL l e.id)) k e) ≠ 0 then ([], opZ, opZ, setE l (changedL (opAt l (placeL l e.id)) k e))
  else (l.set (placeL l e.id) (changedL (opAt l (placeL l e.id)) k e).1, opAt l (placeL l e.id), (changedL (opAt l (placeL l e.id)) k e).1, 0)
theorem thereB_mem {l : List OpR} {x : Int} : thereB l x = true ↔ ∃ o ∈ l, o.id = x := by
  unfold thereB
  rw [List.any_eq_true]
  constructor
  · rintro ⟨o, h, e⟩; exact ⟨o, h, by simpa using e⟩
  · rintro ⟨o, h, e⟩; exact ⟨o, h, by simpa using e⟩
theorem placeL_le (l : List OpR) (x : Int) : placeL l x ≤ l.length := by
  induction l with
  | nil => exact Nat.le_refl 0
  | cons o l ih =>
    unfold placeL
    split
    · simp; omega
    · simp
theorem befB_irrefl_busy (o p : OpR) (h : p.id = o.id) : busyB o p = false ∧ kindB o p = false := by
  constructor <;> simp [busyB, kindB, h]
/-- What is wrong beside others does not hang on the others' order, nor on one of the same number. -/
theorem besideE_of {l m : List OpR} {o : OpR} (h : ∀ p, p.id ≠ o.id → (p ∈ l ↔ p ∈ m)) : besideE l o = besideE m o := by
  have hk : l.any (kindB o) = m.any (kindB o) := by
    rw [Bool.eq_iff_iff, List.any_eq_true, List.any_eq_true]
    constructor
    · rintro ⟨p, hp, e⟩
      have : p.id ≠ o.id := by intro e2; rw [(befB_irrefl_busy o p e2).2] at e; cases e
      exact ⟨p, (h p this).1 hp, e⟩
    · rintro ⟨p, hp, e⟩
      have : p.id ≠ o.id := by intro e2; rw [(befB_irrefl_busy o p e2).2] at e; cases e
      exact ⟨p, (h p this).2 hp, e⟩
  have hb : l.any (busyB o) = m.any (busyB o) := by
    rw [Bool.eq_iff_iff, List.any_eq_true, List.any_eq_true]
    constructor
    · rintro ⟨p, hp, e⟩
      have : p.id ≠ o.id := by intro e2; rw [(befB_irrefl_busy o p e2).1] at e; cases e
      exact ⟨p, (h p this).1 hp, e⟩
    · rintro ⟨p, hp, e⟩
      have : p.id ≠ o.id := by intro e2; rw [(befB_irrefl_busy o p e2).1] at e; cases e
      exact ⟨p, (h p this).2 hp, e⟩
  unfold besideE
  rw [hk, hb]
end Go.Proofs.Ytlhgdbangnohjaa
namespace Go.Proofs.Ytlhgdbangnohjaa
open Go.RowKit
set_option linter.unusedVariables false
theorem rise_ext : ∀ {l m : List OpR}, l.Pairwise (fun a b => a.id < b.id) → m.Pairwise (fun a b => a.id < b.id) → (∀ o, o ∈ l ↔ o ∈ m) → l = m
  | [], [], _, _, _ => rfl
  | [], b :: m, _, _, h => by have := (h b).2 (by simp); simp at this
  | a :: l, [], _, _, h => by have := (h a).1 (by simp); simp at this
  | a :: l, b :: m, hl, hm, h => by
    rw [List.pairwise_cons] at hl hm
    have hab : a = b := by
      rcases List.mem_cons.1 ((h a).1 (by simp)) with e | e
      · exact e
      · rcases List.mem_cons.1 ((h b).2 (by simp)) with e2 | e2
        · exact e2.symm
        · have := hm.1 a e
          have := hl.1 b e2
          omega
    subst hab
    refine congrArg (a :: ·) (rise_ext hl.2 hm.2 fun o => ⟨fun ho => ?_, fun ho => ?_⟩)
    · rcases List.mem_cons.1 ((h o).1 (by simp [ho])) with e | e
      · subst e; have := hl.1 o ho; omega
      · exact e
    · rcases List.mem_cons.1 ((h o).2 (by simp [ho])) with e | e
      · subst e; have := hm.1 o ho; omega
      · exact e
theorem rises_pairwise {l : List OpR} (h : Rises l) : l.Pairwise (fun a b => a.id < b.id) := by
  rw [List.pairwise_iff_getElem]
  intro i j hi hj hij
  have := h i j hij hj
  rwa [opAt_eq hi, opAt_eq hj] at this
theorem pairwise_rises {l : List OpR} (h : l.Pairwise (fun a b => a.id < b.id)) : Rises l := by
  rw [List.pairwise_iff_getElem] at h
  intro i j hij hj
  rw [opAt_eq (by omega), opAt_eq hj]
  exact h i j (by omega) hj hij
/-- A history, by its operations. -/
structure HistM (l : List OpR) : Prop where
  short : l.length ≤ 64
  rise : l.Pairwise (fun a b => a.id < b.id)
  each : ∀ o ∈ l, checkE o = 0
  beside : ∀ o ∈ l, besideE l o = 0
theorem histM_of {l : List OpR} (h : Hist l) : HistM l := by
  refine ⟨h.short, rises_pairwise h.rise, fun o ho => ?_, fun o ho => ?_⟩
  · obtain ⟨k, hk, rfl⟩ := List.getElem_of_mem ho
    rw [← opAt_eq hk]; exact h.each k hk
  · obtain ⟨k, hk, rfl⟩ := List.getElem_of_mem ho
    rw [← opAt_eq hk]; exact h.beside k hk
theorem of_histM {l : List OpR} (h : HistM l) : Hist l := by
  refine ⟨h.short, fun k hk => ?_, pairwise_rises h.rise, fun k hk => ?_⟩
  · rw [opAt_eq hk]; exact h.each _ (List.getElem_mem hk)
  · rw [opAt_eq hk]; exact h.beside _ (List.getElem_mem hk)
theorem mem_ins {l : List OpR} {o p : OpR} {i : Nat} : p ∈ l.take i ++ o :: l.drop i ↔ p = o ∨ p ∈ l := by
  conv => rhs; rw [← List.take_append_drop i l]
  simp only [List.mem_append, List.mem_cons]
  constructor
  · rintro (h | h | h)
    · exact .inr (.inl h)
    · exact .inl h
    · exact .inr (.inr h)
  · rintro (h | h | h)
    · exact .inr (.inl h)
    · exact .inl h
    · exact .inr (.inr h)
end Go.Proofs.Ytlhgdbangnohjaa
namespace Go.Proofs.Ytlhgdbangnohjaa
open Go.RowKit
set_option linter.unusedVariables false
theorem split_here {l : List OpR} {i : Nat} (hi : i < l.length) : l = l.take i ++ l[i] :: l.drop (i + 1) := by
  rw [List.getElem_cons_drop]; exact (List.take_append_drop i l).symm
theorem mem_cut {l : List OpR} (hs : l.Pairwise (fun a b => a.id < b.id)) {i : Nat} (hi : i < l.length) {p : OpR} : p ∈ l.take i ++ l.drop (i + 1) ↔ p ∈ l ∧ p.id ≠ (l[i]).id := by
  have hsp := split_here hi
  have hp := hs
  rw [hsp, List.pairwise_append, List.pairwise_cons] at hp
  obtain ⟨-, ⟨h1, -⟩, h2⟩ := hp
  have hm : p ∈ l ↔ p ∈ l.take i ∨ p = l[i] ∨ p ∈ l.drop (i + 1) := by
    conv => lhs; rw [hsp]
    simp only [List.mem_append, List.mem_cons]
  rw [hm, List.mem_append]
  constructor
  · rintro (h | h)
    · refine ⟨.inl h, ?_⟩
      have := h2 p h (l[i]) List.mem_cons_self
      omega
    · refine ⟨.inr (.inr h), ?_⟩
      have := h1 p h
      omega
  · rintro ⟨h | h | h, hne⟩
    · exact .inl h
    · subst h; exact absurd rfl hne
    · exact .inr h
theorem mem_set {l : List OpR} (hs : l.Pairwise (fun a b => a.id < b.id)) {i : Nat} (hi : i < l.length) {o p : OpR} : p ∈ l.set i o ↔ p = o ∨ (p ∈ l ∧ p.id ≠ (l[i]).id) := by
  rw [← mem_cut hs hi, List.set_eq_take_append_cons_drop, if_pos hi]
  simp only [List.mem_append, List.mem_cons]
  constructor
  · rintro (h | h | h)
    · exact .inr (.inl h)
    · exact .inl h
    · exact .inr (.inr h)
  · rintro (h | h | h)
    · exact .inr (.inl h)
    · exact .inl h
    · exact .inr (.inr h)
theorem rise_cut {l : List OpR} (hs : l.Pairwise (fun a b => a.id < b.id)) (i : Nat) : (l.take i ++ l.drop (i + 1)).Pairwise (fun a b => a.id < b.id) := by
  refine List.Pairwise.sublist ?_ hs
  have h1 : l.take i ++ l.drop (i + 1) = l.eraseIdx i := (List.eraseIdx_eq_take_drop_succ l i).symm
  rw [h1]
  exact List.eraseIdx_sublist l i
end Go.Proofs.Ytlhgdbangnohjaa
namespace Go.Proofs.Ytlhgdbangnohjaa
open Go.RowKit
set_option linter.unusedVariables false
/-- Nothing is wrong with two operations beside one another. -/
def Apart (o p : OpR) : Prop := kindB o p = false ∧ busyB o p = false
theorem kindB_symm (o p : OpR) : kindB o p = kindB p o := by
  unfold kindB
  rw [Bool.eq_iff_iff]
  simp only [Bool.and_eq_true, bne_iff_ne, beq_iff_eq, ne_eq]
  constructor
  · rintro ⟨a, b, c⟩; exact ⟨fun e => a e.symm, b.symm, fun e => c e.symm⟩
  · rintro ⟨a, b, c⟩; exact ⟨fun e => a e.symm, b.symm, fun e => c e.symm⟩
theorem busyB_symm (o p : OpR) : busyB o p = busyB p o := by
  unfold busyB
  rw [Bool.eq_iff_iff]
  simp only [Bool.and_eq_true, bne_iff_ne, beq_iff_eq, ne_eq]
  constructor
  · rintro ⟨a, b, c, d⟩; exact ⟨fun e => a e.symm, b.symm, d, c⟩
  · rintro ⟨a, b, c, d⟩; exact ⟨fun e => a e.symm, b.symm, d, c⟩
theorem Apart.symm {o p : OpR} (h : Apart o p) : Apart p o := ⟨(kindB_symm p o).trans h.1, (busyB_symm p o).trans h.2⟩
theorem Apart.same {o p : OpR} (h : p.id = o.id) : Apart o p := ⟨(befB_irrefl_busy o p h).2, (befB_irrefl_busy o p h).1⟩
theorem besideE_zero {l : List OpR} {o : OpR} : besideE l o = 0 ↔ ∀ p ∈ l, Apart o p := by
  unfold besideE
  constructor
  · intro h p hp
    by_cases h1 : l.any (kindB o) = true
    · rw [if_pos h1] at h; omega
    · rw [if_neg h1] at h
      by_cases h2 : l.any (busyB o) = true
      · rw [if_pos h2] at h; omega
      · rw [Bool.not_eq_true, List.any_eq_false] at h1 h2
        exact ⟨by simpa using h1 p hp, by simpa using h2 p hp⟩
  · intro h
    have h1 : l.any (kindB o) = false := by rw [List.any_eq_false]; intro p hp; rw [(h p hp).1]; decide
    have h2 : l.any (busyB o) = false := by rw [List.any_eq_false]; intro p hp; rw [(h p hp).2]; decide
    rw [if_neg (by rw [h1]; decide), if_neg (by rw [h2]; decide)]
theorem besideE_cases (l : List OpR) (o : OpR) : besideE l o = 0 ∨ besideE l o = 32 ∨ besideE l o = 33 := by
  unfold besideE
  split
  · exact .inr (.inr rfl)
  · split
    · exact .inr (.inl rfl)
    · exact .inl rfl
end Go.Proofs.Ytlhgdbangnohjaa
namespace Go.Proofs.Ytlhgdbangnohjaa
open Go.RowKit
set_option linter.unusedVariables false
set_option linter.unusedSimpArgs false
theorem sound_step {c : GenC} {G : GenW} {k : Nat} (hc : c.good) (hk : k ≤ 63) (hg : GOk c G k) (hp : Pend c G) (h : SoundG G) : SoundG (stepG c G ((k : Int) + 1)) := by
  obtain ⟨g1, g2, g3, g4, -⟩ := hc
  cases hch : chooseL G.gone c.procs.toNat (belowV G.x c.procs).toNat c.procs.toNat 0 with
  | none =>
    rw [stepG_none hch]
    exact h.x _
  | some p =>
    obtain ⟨hpp, hpg⟩ := chooseL_lt (by omega) _ _ _ hch
    have b1 := belowV_lo (x := nxt G.x) (n := c.objects) g3
    have b2 := belowV_hi (x := nxt G.x) (n := c.objects) g3
    obtain ⟨n, hn⟩ : ∃ n : Nat, belowV (nxt G.x) c.objects = (n : Int) := ⟨(belowV (nxt G.x) c.objects).toNat, by omega⟩
    have hnn : n < c.objects.toNat := by omega
    obtain ⟨a1, a2, a3, a4, a5⟩ := ask_ok (procs := c.procs) (nxt (nxt G.x)) ((k : Int) + 1) p (belowV (nxt G.x) c.objects) ⟨by omega, by omega⟩
    have af := ask_fits (nxt (nxt G.x)) ((k : Int) + 1) p (belowV (nxt G.x) c.objects) b1
    cases hr : askL (nxt (nxt G.x)) ((k : Int) + 1) p (belowV (nxt G.x) c.objects) with
    | mk y o =>
      rw [hr] at a1 a2 a3 a4 a5 af
      rw [hn] at a2 a3
      rw [stepG_some hch hr]
      cases ht : turnL G o with
      | none => exact h.x y
      | some q =>
        obtain ⟨q1, q2, q3, q4⟩ := turn_ok hg o q n a1 a2 hnn a3 ht
        have hid : 1 ≤ q.id ∧ q.id ≤ 64 := by
          rw [q4]
          dsimp only at a4
          rw [a4]
          omega
        exact sound_place (k := k) (by omega) (hg.x y) (hp.x y) (h.x y) q n q1 (turn_fits af ht) g2 g4 q2 hnn q3 hid (turnL_gone ht (by dsimp only at a5; rw [a5]; simpa using hpg))
theorem sound_steps {c : GenC} (hc : c.good) : ∀ n : Nat, n ≤ 64 → SoundG (stepsG c (firstG c) n)
  | 0, _ => ⟨fun o ho => (by cases ho), fun o ho => (by cases ho), List.Pairwise.nil⟩
  | n + 1, h => sound_step hc (by omega) (steps_ok hc n (by omega)) (pend_steps hc n (by omega)) (sound_steps hc n (by omega))
theorem apart_of {a b : OpR} (hk : a.obj = b.obj → a.kind = b.kind) (hs : a.proc = b.proc → a.done = true ∧ a.ret < b.inv) : Apart a b := by
  constructor
  · unfold kindB
    by_cases e : a.obj = b.obj
    · simp [hk e]
    · simp
      exact fun _ e2 => absurd e2.symm e
  · unfold busyB
    by_cases e : a.proc = b.proc
    · obtain ⟨h1, h2⟩ := hs e
      simp [befB, h1, h2]
    · simp
      exact fun _ e2 => absurd e2.symm e
/-- Every history that is made may be. -/
theorem gen_hist {c : GenC} (hc : c.good) (n : Nat) (hn : n ≤ 64) : HistM (stepsG c (firstG c) n).l where
  short := Nat.le_trans (steps_ok hc n hn).len hn
  rise := (steps_ids c (firstG c) rfl n).1
  each := fun o ho => ((sound_steps hc n hn).each o ho).1
  beside := fun o ho => by
    have hS := sound_steps hc n hn
    rw [besideE_zero]
    intro p hp
    have hko := (hS.each o ho).2
    have hkp := (hS.each p hp).2
    obtain ⟨i, hi, rfl⟩ := List.getElem_of_mem ho
    obtain ⟨j, hj, rfl⟩ := List.getElem_of_mem hp
    have hq := List.pairwise_iff_getElem.1 hS.seq
    by_cases e : i = j
    · subst e
      exact Apart.same rfl
    · by_cases hlt : i < j
      · exact apart_of (fun e2 => by rw [hko, hkp, e2]) (hq i j hi hj hlt)
      · exact (apart_of (fun e2 => by rw [hko, hkp, e2]) (hq j i hj hi (by omega))).symm
end Go.Proofs.Ytlhgdbangnohjaa
namespace Go.Proofs.Ytlhgdbangnohjaa
open Go.RowKit
set_option linter.unusedVariables false
set_option linter.unusedSimpArgs false
theorem Grow.drewNO {a b : World} (h : Grow a b) (n : Nat) : Grow a (b.drewN n) := ⟨h.os, h.tape, h.output, h.size, h.block⟩
set_option maxRecDepth 100000 in
set_option maxHeartbeats 4000000 in
theorem ROps_c (l : List OpR) (va vb : Value) (w : World) (ha : Ops w va l) (hb : Ops w vb l) : Calls Try.prog 20 #[va, vb] w fun e w' => e = .returned (.bool true) ∧ Grow w w' := by
  obtain ⟨pa, ca, rfl, hn, hca⟩ := ha.read
  obtain ⟨pb, cb, rfl, -, hcb⟩ := hb.read
  have HX := hid (show ∀ k, k < l.length → ∃ (ba oa bb ob : Nat) (o : OpR), pa = some ⟨ba, oa, none⟩ ∧ pb = some ⟨bb, ob, none⟩ ∧ OpAt w ba (oa + k * 11) o ∧ OpAt w bb (ob + k * 11) o from by
    intro k hk
    obtain ⟨ba, oa, e1, A⟩ := hca k hk
    obtain ⟨bb, ob, e2, B⟩ := hcb k hk
    exact ⟨ba, oa, bb, ob, _, e1, e2, A, B⟩)
  clear hca hcb ha hb
  generalize l.length = n at *
  go_enter Try.func20, Try.ntmps20
  go_wp2_with fail
  go_loopw [5] (fun i wr => ∃ k : Nat, k ≤ n ∧ i = .int .i64 k ∧ Grow w wr) (fun i _ => n - (intOf i).toNat)
  case atStart => exact ⟨0, by omega, rfl, Grow.refl _⟩
  case round =>
    obtain ⟨k, hk, rfl, hg⟩ := hrel
    by_cases hlt : k < n
    · obtain ⟨ba, oa, bb, ob, o, rfl, rfl, ha, hb⟩ := HX.out k hlt
      obtain ⟨id, proc, obj, kind, meth, arg, sec, done, res, inv, ret⟩ := o
      unfold OpAt at ha hb
      dsimp only at ha hb
      obtain ⟨a0, a1, a2, a3, a4, a5, a6, a7, a8, a9, a10⟩ := ha
      obtain ⟨b0, b1, b2, b3, b4, b5, b6, b7, b8, b9, b10⟩ := hb
      replace a0 := hg.cell a0
      replace a1 := hg.cell a1
      replace a2 := hg.cell a2
      replace a3 := hg.cell a3
      replace a4 := hg.cell a4
      replace a5 := hg.cell a5
      replace a6 := hg.cell a6
      replace a7 := hg.cell a7
      replace a8 := hg.cell a8
      replace a9 := hg.cell a9
      replace a10 := hg.cell a10
      replace b0 := hg.cell b0
      replace b1 := hg.cell b1
      replace b2 := hg.cell b2
      replace b3 := hg.cell b3
      replace b4 := hg.cell b4
      replace b5 := hg.cell b5
      replace b6 := hg.cell b6
      replace b7 := hg.cell b7
      replace b8 := hg.cell b8
      replace b9 := hg.cell b9
      replace b10 := hg.cell b10
      have hk0 : (0 : Int) ≤ (k : Int) := by omega
      have hk1 : (k : Int) < (n : Int) := by omega
      have hgd := op_guard
      have hne := op_neq id proc obj kind meth arg sec done res inv ret
      go_wp2_with fail
      go_quiet (fail)
      go_wp2_with fail
      go_roundw
      case rel => exact ⟨k + 1, by omega, by go_num, Grow.drewNO hg _⟩
      case measure => simp [intOf]; omega
    · obtain rfl : k = n := by omega
      go_wp2_with fail
      go_ret
      exact ⟨rfl, hg⟩
end Go.Proofs.Ytlhgdbangnohjaa
