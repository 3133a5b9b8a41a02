/- The tree as a list that is in order; how high it is. No Go text is spoken of. -/
import Derived.Test.YthmbnffddpnehaaITree
namespace Go.Proofs.Ythmbnffddpnehaa
open Go.RowKit
set_option linter.unusedVariables false
set_option linter.unusedSimpArgs false
/-- An interval put where it belongs: ahead of the first that begins later. -/
def addL (y : It) : List It → List It
  | [] => [y]
  | x :: r => if y.f < x.f then y :: x :: r else x :: addL y r
/-- In order: by beginnings, and then by numbers. -/
def Rises (L : List It) : Prop := L.Pairwise (fun a b => a.f < b.f ∨ (a.f = b.f ∧ a.id < b.id))
theorem addL_left (y x : It) (l r : List It) (h : y.f < x.f) : addL y (l ++ x :: r) = addL y l ++ x :: r := by
  induction l with
  | nil => simp [addL, h]
  | cons z l ih =>
    simp only [List.cons_append, addL]
    split
    · rfl
    · rw [ih]; rfl
theorem addL_right (y x : It) (l r : List It) (h : ∀ z ∈ l ++ [x], ¬ y.f < z.f) : addL y (l ++ x :: r) = l ++ x :: addL y r := by
  induction l with
  | nil => simp only [List.nil_append, addL]; rw [if_neg (h x (by simp))]
  | cons z l ih =>
    simp only [List.cons_append, addL]
    rw [if_neg (h z (by simp)), ih (fun u hu => h u (by simp at hu ⊢; exact .inr hu))]
theorem mem_addL (y z : It) (L : List It) : z ∈ addL y L ↔ z = y ∨ z ∈ L := by
  induction L with
  | nil => simp [addL]
  | cons x r ih =>
    simp only [addL]
    split
    · simp
    · simp only [List.mem_cons, ih]
      grind
theorem len_addL (y : It) (L : List It) : (addL y L).length = L.length + 1 := by
  induction L with
  | nil => rfl
  | cons x r ih =>
    simp only [addL]
    split
    · simp
    · simp [ih]
theorem Rises.addL {y : It} {L : List It} (h : Rises L) (hy : ∀ x ∈ L, x.id < y.id) : Rises (addL y L) := by
  induction L with
  | nil => simp [Go.Proofs.Ythmbnffddpnehaa.addL, Rises]
  | cons x r ih =>
    unfold Rises at h ih ⊢
    rw [List.pairwise_cons] at h
    simp only [Go.Proofs.Ythmbnffddpnehaa.addL]
    split
    · rename_i hlt
      refine List.pairwise_cons.2 ⟨fun z hz => ?_, List.pairwise_cons.2 h⟩
      rcases List.mem_cons.1 hz with rfl | hz
      · exact .inl hlt
      · have := h.1 z hz
        omega
    · rename_i hlt
      refine List.pairwise_cons.2 ⟨fun z hz => ?_, ih h.2 (fun u hu => hy u (List.mem_cons_of_mem _ hu))⟩
      rcases (mem_addL _ _ _).1 hz with rfl | hz
      · have := hy x (by simp)
        omega
      · exact h.1 z hz
theorem Rises.filter {L : List It} (h : Rises L) (p : It → Bool) : Rises (L.filter p) := List.Pairwise.filter p h
theorem Rises.parts {l r : List It} {x : It} (h : Rises (l ++ x :: r)) : Rises l ∧ Rises r ∧ (∀ z ∈ l, z.f < x.f ∨ (z.f = x.f ∧ z.id < x.id)) ∧ (∀ z ∈ r, x.f < z.f ∨ (x.f = z.f ∧ x.id < z.id)) := by
  unfold Rises at h ⊢
  rw [List.pairwise_append, List.pairwise_cons] at h
  exact ⟨h.1, h.2.1.2, fun z hz => h.2.2 z hz x (by simp), h.2.1.1⟩
namespace Tr
theorem items_ins (n : Nat) (y : It) : ∀ T : Tr, Rises T.items → (∀ x ∈ T.items, x.id < y.id) → (ins n y T).items = addL y T.items
  | .nil, _, _ => rfl
  | .node b x l r, h, hy => by
    obtain ⟨hl, hr, hlx, hxr⟩ := h.parts
    have hyl : ∀ z ∈ l.items, z.id < y.id := fun z hz => hy z (by simp [items, hz])
    have hyr : ∀ z ∈ r.items, z.id < y.id := fun z hz => hy z (by simp [items, hz])
    have hyx := hy x (by simp [items])
    simp only [ins]
    by_cases hlt : y.f < x.f
    · rw [if_pos (by simp [bef, hlt]), items_even, items_ins n y l hl hyl, items, addL_left _ _ _ _ hlt]
    · rw [if_neg (by simp [bef]; omega), items_even, items_ins n y r hr hyr, items, addL_right _ _ _ _ (fun z hz => by
        simp only [List.mem_append, List.mem_singleton] at hz
        rcases hz with hz | rfl
        · have := hlx z hz; omega
        · exact hlt)]
/-- No number twice. -/
def Apart (L : List It) : Prop := L.Pairwise (fun a b => a.id ≠ b.id)
theorem filter_keep (id : Int) (L : List It) (h : ∀ x ∈ L, x.id ≠ id) : L.filter (fun x => decide (x.id ≠ id)) = L := by
  rw [List.filter_eq_self]
  intro x hx
  simpa using h x hx
theorem items_rem (z : It) : ∀ T : Tr, Rises T.items → Apart T.items → z ∈ T.items → (rem z.f z.id T).items = T.items.filter (fun x => decide (x.id ≠ z.id))
  | .nil, _, _, hz => by simp [items] at hz
  | .node b x l r, h, ha, hz => by
    obtain ⟨hl, hr, hlx, hxr⟩ := h.parts
    unfold Apart at ha
    simp only [items] at ha hz ⊢
    rw [List.pairwise_append, List.pairwise_cons] at ha
    obtain ⟨al, ⟨axr, ar⟩, alr⟩ := ha
    simp only [List.mem_append, List.mem_cons] at hz
    rw [List.filter_append, List.filter_cons]
    simp only [rem]
    by_cases hx : x.id = z.id
    · rw [if_pos hx, if_neg (by simp [hx])]
      have kl := filter_keep z.id l.items (fun u hu => by have := alr u hu x (by simp); omega)
      have kr := filter_keep z.id r.items (fun u hu => by have := axr u hu; omega)
      rw [kl, kr]
      cases r with
      | nil => simp [items]
      | node c y m k =>
        dsimp only
        rw [items_even, items_first]
        rfl
    · rw [if_neg hx, if_pos (show decide (x.id ≠ z.id) = true by simpa using hx)]
      rcases hz with hz | rfl | hz
      · have hzx := hlx z hz
        rw [if_pos (by simp [bef]; omega), items_even, items_rem z l hl al hz]
        have kr := filter_keep z.id r.items (fun u hu => by have := alr z hz u (by simp [hu]); omega)
        rw [kr]
      · exact absurd rfl hx
      · have hzx := hxr z hz
        rw [if_neg (by simp [bef]; omega), items_even, items_rem z r hr ar hz]
        have kl := filter_keep z.id l.items (fun u hu => by have := alr u hu z (by simp [hz]); omega)
        rw [kl]
/-- What is found. -/
theorem find_node (z : It) : ∀ T : Tr, Rises T.items → Apart T.items → z ∈ T.items → ∃ b l r, find z.f z.id T = .node b z l r
  | .nil, _, _, hz => by simp [items] at hz
  | .node b x l r, h, ha, hz => by
    obtain ⟨hl, hr, hlx, hxr⟩ := h.parts
    unfold Apart at ha
    simp only [items] at ha hz
    rw [List.pairwise_append, List.pairwise_cons] at ha
    obtain ⟨al, ⟨axr, ar⟩, alr⟩ := ha
    simp only [List.mem_append, List.mem_cons] at hz
    simp only [find]
    by_cases hx : x.id = z.id
    · rw [if_pos hx]
      rcases hz with hz | rfl | hz
      · have := alr z hz x (by simp); omega
      · exact ⟨b, l, r, rfl⟩
      · have := axr z hz; omega
    · rw [if_neg hx]
      rcases hz with hz | rfl | hz
      · have hzx := hlx z hz
        rw [if_pos (by simp [bef]; omega)]
        exact find_node z l hl al hz
      · exact absurd rfl hx
      · have hzx := hxr z hz
        rw [if_neg (by simp [bef]; omega)]
        exact find_node z r hr ar hz
/-- What a span meets, as it is walked. -/
def walkT (f t : Int) : Tr → List It
  | .nil => []
  | .node b x l r => if (Tr.node b x l r).last < f then [] else walkT f t l ++ (if t < x.f then [] else (if f ≤ x.t then [x] else []) ++ walkT f t r)
theorem last_ge : ∀ T : Tr, ∀ x ∈ T.items, x.t ≤ T.last
  | .nil, x, hx => by simp [items] at hx
  | .node b y l r, x, hx => by
    simp only [items, List.mem_append, List.mem_cons] at hx
    simp only [last, imax]
    rcases hx with hx | rfl | hx
    · have := last_ge l x hx
      split <;> split <;> omega
    · split <;> split <;> omega
    · have := last_ge r x hx
      split <;> split <;> omega
def meets (f t : Int) (x : It) : Bool := decide (x.f ≤ t) && decide (f ≤ x.t)
theorem walkT_eq (f t : Int) : ∀ T : Tr, Rises T.items → walkT f t T = T.items.filter (meets f t)
  | .nil, _ => rfl
  | .node b x l r, h => by
    obtain ⟨hl, hr, hlx, hxr⟩ := h.parts
    simp only [walkT]
    split
    · rename_i hlt
      symm
      rw [List.filter_eq_nil_iff]
      intro z hz
      have := last_ge _ z hz
      simp [meets]
      omega
    · rw [walkT_eq f t l hl, walkT_eq f t r hr, items, List.filter_append, List.filter_cons]
      congr 1
      split
      · rename_i hlt
        rw [if_neg (by simp [meets]; omega)]
        symm
        rw [List.filter_eq_nil_iff]
        intro z hz
        have := hxr z hz
        simp [meets]
        omega
      · rename_i hlt
        by_cases hft : f ≤ x.t
        · rw [if_pos hft, if_pos (by simp [meets]; omega)]; rfl
        · rw [if_neg hft, if_neg (by simp [meets]; omega)]; rfl
/-! How high it is. -/
def Bal : Tr → Prop
  | .nil => True
  | .node _ _ l r => l.high - r.high ≤ 1 ∧ -1 ≤ l.high - r.high ∧ Bal l ∧ Bal r
theorem high_node (b : Nat) (x : It) (l r : Tr) : ((Tr.node b x l r).high = 1 + l.high ∧ r.high ≤ l.high) ∨ ((Tr.node b x l r).high = 1 + r.high ∧ l.high ≤ r.high) := by
  simp only [high, imax]
  split
  · right; omega
  · left; omega
theorem bal_even (b : Nat) (x : It) (l r : Tr) (hl : Bal l) (hr : Bal r) (h1 : l.high - r.high ≤ 2) (h2 : -2 ≤ l.high - r.high) :
    Bal (even b x l r) ∧ (even b x l r).high ≤ (Tr.node b x l r).high ∧ (Tr.node b x l r).high - 1 ≤ (even b x l r).high ∧ ((l.high - r.high ≤ 1 ∧ -1 ≤ l.high - r.high) → (even b x l r).high = (Tr.node b x l r).high) := by
  have hn := high_node b x l r
  unfold even
  split
  · cases l with
    | nil => have := high_le r; simp only [high] at *; omega
    | node c y ll lr =>
      obtain ⟨g1, g2, gl, gr⟩ := hl
      have hc := high_node c y ll lr
      simp only [fixL]
      split
      · cases lr with
        | nil => have := high_le ll; simp only [high] at *; omega
        | node d z lm lo =>
          obtain ⟨k1, k2, kl, kr⟩ := gr
          have hd := high_node d z lm lo
          have e1 := high_node c y ll lm
          have e2 := high_node b x lo r
          have e3 := high_node d z (.node c y ll lm) (.node b x lo r)
          simp only [turnL, turnR, Bal]
          refine ⟨⟨by omega, by omega, ⟨by omega, by omega, gl, kl⟩, ⟨by omega, by omega, kr, hr⟩⟩, by omega, by omega, by omega⟩
      · have e2 := high_node b x lr r
        have e3 := high_node c y ll (.node b x lr r)
        simp only [turnR, Bal]
        refine ⟨⟨by omega, by omega, gl, ⟨by omega, by omega, gr, hr⟩⟩, by omega, by omega, by omega⟩
  · split
    · cases r with
      | nil => have := high_le l; simp only [high] at *; omega
      | node c y rl rr =>
        obtain ⟨g1, g2, gl, gr⟩ := hr
        have hc := high_node c y rl rr
        simp only [fixR]
        split
        · cases rl with
          | nil => have := high_le rr; simp only [high] at *; omega
          | node d z rm ro =>
            obtain ⟨k1, k2, kl, kr⟩ := gl
            have hd := high_node d z rm ro
            have e1 := high_node c y ro rr
            have e2 := high_node b x l rm
            have e3 := high_node d z (.node b x l rm) (.node c y ro rr)
            simp only [turnL, turnR, Bal]
            refine ⟨⟨by omega, by omega, ⟨by omega, by omega, hl, kl⟩, ⟨by omega, by omega, kr, gr⟩⟩, by omega, by omega, by omega⟩
        · have e2 := high_node b x l rl
          have e3 := high_node c y (.node b x l rl) rr
          simp only [turnL, Bal]
          refine ⟨⟨by omega, by omega, ⟨by omega, by omega, hl, gl⟩, gr⟩, by omega, by omega, by omega⟩
    · exact ⟨⟨by omega, by omega, hl, hr⟩, by omega, by omega, fun _ => rfl⟩
theorem bal_ins (n : Nat) (y : It) : ∀ T : Tr, Bal T → Bal (ins n y T) ∧ T.high ≤ (ins n y T).high ∧ (ins n y T).high ≤ T.high + 1
  | .nil, _ => by refine ⟨⟨by simp [high], by simp [high], trivial, trivial⟩, ?_⟩; simp [ins, high, imax]
  | .node b x l r, ⟨g1, g2, gl, gr⟩ => by
    have hn := high_node b x l r
    simp only [ins]
    split
    · obtain ⟨i1, i2, i3⟩ := bal_ins n y l gl
      have he := bal_even b x (ins n y l) r i1 gr (by omega) (by omega)
      have hm := high_node b x (ins n y l) r
      exact ⟨he.1, by omega, by omega⟩
    · obtain ⟨i1, i2, i3⟩ := bal_ins n y r gr
      have he := bal_even b x l (ins n y r) gl i1 (by omega) (by omega)
      have hm := high_node b x l (ins n y r)
      exact ⟨he.1, by omega, by omega⟩
theorem bal_first (l : Tr) : ∀ (b : Nat) (x : It) (r : Tr), Bal (.node b x l r) → Bal (first b x l r).2.2 ∧ (first b x l r).2.2.high ≤ (Tr.node b x l r).high ∧ (Tr.node b x l r).high ≤ (first b x l r).2.2.high + 1 := by
  induction l with
  | nil =>
    rintro b x r ⟨g1, g2, gl, gr⟩
    have hn := high_node b x .nil r
    simp only [first]
    have hp := (high_le r).1
    simp only [high] at g1 g2 hn ⊢
    exact ⟨gr, by omega, by omega⟩
  | node c y m k ihm ihk =>
    rintro b x r ⟨g1, g2, gl, gr⟩
    have hn := high_node b x (.node c y m k) r
    obtain ⟨i1, i2, i3⟩ := ihm c y k gl
    simp only [first]
    have he := bal_even b x (first c y m k).2.2 r i1 gr (by omega) (by omega)
    have hm := high_node b x (first c y m k).2.2 r
    exact ⟨he.1, by omega, by omega⟩
theorem bal_rem (f id : Int) : ∀ T : Tr, Bal T → Bal (rem f id T) ∧ (rem f id T).high ≤ T.high ∧ T.high ≤ (rem f id T).high + 1
  | .nil, _ => ⟨trivial, Int.le_refl _, by simp [rem, high]⟩
  | .node b x l r, ⟨g1, g2, gl, gr⟩ => by
    have hn := high_node b x l r
    simp only [rem]
    split
    · cases r with
      | nil =>
        dsimp only
        have hp := (high_le l).1
        simp only [high] at g1 g2 hn ⊢
        exact ⟨gl, by omega, by omega⟩
      | node c y m k =>
        dsimp only
        obtain ⟨i1, i2, i3⟩ := bal_first m c y k gr
        have he := bal_even (first c y m k).1 (first c y m k).2.1 l (first c y m k).2.2 gl i1 (by omega) (by omega)
        have hm := high_node (first c y m k).1 (first c y m k).2.1 l (first c y m k).2.2
        exact ⟨he.1, by omega, by omega⟩
    · split
      · obtain ⟨i1, i2, i3⟩ := bal_rem f id l gl
        have he := bal_even b x (rem f id l) r i1 gr (by omega) (by omega)
        have hm := high_node b x (rem f id l) r
        exact ⟨he.1, by omega, by omega⟩
      · obtain ⟨i1, i2, i3⟩ := bal_rem f id r gr
        have he := bal_even b x l (rem f id r) gl i1 (by omega) (by omega)
        have hm := high_node b x l (rem f id r)
        exact ⟨he.1, by omega, by omega⟩
/-- The fewest intervals of a tree so high. -/
def few : Nat → Nat
  | 0 => 0
  | 1 => 1
  | n + 2 => few (n + 1) + few n + 1
theorem few_step (n : Nat) : few n ≤ few (n + 1) := by
  induction n with
  | zero => simp [few]
  | succ n ih => simp only [few]; omega
theorem few_mono {m n : Nat} (h : m ≤ n) : few m ≤ few n := by
  induction h with
  | refl => exact Nat.le_refl _
  | step _ ih => exact Nat.le_trans ih (few_step _)
theorem few_size : ∀ T : Tr, Bal T → few T.high.toNat ≤ T.size
  | .nil, _ => by simp [high, few]
  | .node b x l r, ⟨g1, g2, gl, gr⟩ => by
    have hl := few_size l gl
    have hr := few_size r gr
    have pl := (high_le l).1
    have pr := (high_le r).1
    have hn := high_node b x l r
    simp only [size]
    rcases hn with ⟨e, hle⟩ | ⟨e, hle⟩
    · obtain ⟨k, hk⟩ : ∃ k : Nat, l.high.toNat = k := ⟨_, rfl⟩
      rw [show (Tr.node b x l r).high.toNat = k + 1 by omega]
      rw [hk] at hl
      cases k with
      | zero => simp [few]
      | succ k =>
        have h2 : few k ≤ few r.high.toNat := few_mono (by omega)
        simp only [few]
        omega
    · obtain ⟨k, hk⟩ : ∃ k : Nat, r.high.toNat = k := ⟨_, rfl⟩
      rw [show (Tr.node b x l r).high.toNat = k + 1 by omega]
      rw [hk] at hr
      cases k with
      | zero => simp [few]
      | succ k =>
        have h2 : few k ≤ few l.high.toNat := few_mono (by omega)
        simp only [few]
        omega
end Tr
end Go.Proofs.Ythmbnffddpnehaa
