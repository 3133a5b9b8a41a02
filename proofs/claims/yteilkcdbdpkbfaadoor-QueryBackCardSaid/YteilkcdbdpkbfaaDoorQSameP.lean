/- Nodes that are the same; how heavy one is. No Go text is spoken of. -/
import Derived.Test.YteilkcdbdpkbfaaDoorQNode
namespace Go.Proofs.YteilkcdbdpkbfaaDoor
open Go.RowKit
set_option linter.unusedVariables false
set_option linter.unusedSimpArgs false
mutual
def sameN : NodeR → NodeR → Bool
  | .mk k ks f s x, .mk k' ks' f' s' x' => decide (k = k') && decide (ks.length = ks'.length) && decide (f = f') && decide (s = s') && decide (x = x') && sameL ks ks'
def sameL : List NodeR → List NodeR → Bool
  | [], [] => true
  | a :: l, b :: m => sameN a b && sameL l m
  | _, _ => false
end
mutual
theorem sameN_iff : ∀ a b : NodeR, sameN a b = true ↔ a = b
  | .mk k ks f s x, .mk k' ks' f' s' x' => by
    unfold sameN
    have h := sameL_iff ks ks'
    constructor
    · intro e
      simp only [Bool.and_eq_true, decide_eq_true_eq] at e
      obtain ⟨⟨⟨⟨⟨rfl, -⟩, rfl⟩, rfl⟩, rfl⟩, e⟩ := e
      rw [h.1 e]
    · intro e
      cases e
      simp [h.2 rfl]
theorem sameL_iff : ∀ l m : List NodeR, sameL l m = true ↔ l = m
  | [], [] => by simp [sameL]
  | [], b :: m => by simp [sameL]
  | a :: l, [] => by simp [sameL]
  | a :: l, b :: m => by
    unfold sameL
    simp only [Bool.and_eq_true, sameN_iff a b, sameL_iff l m, List.cons.injEq]
end
theorem sameL_at : ∀ (l m : List NodeR), l.length = m.length → (∀ i (h : i < l.length) (h' : i < m.length), sameN l[i] m[i] = true) → sameL l m = true
  | [], [], _, _ => by simp [sameL]
  | [], b :: m, h, _ => by simp at h
  | a :: l, [], h, _ => by simp at h
  | a :: l, b :: m, h, hi => by
    unfold sameL
    have h0 : sameN a b = true := hi 0 (by simp) (by simp)
    rw [h0, sameL_at l m (by simpa using h) (fun i h1 h2 => hi (i + 1) (by simpa using h1) (by simpa using h2))]
    rfl
theorem sameL_not (l m : List NodeR) (i : Nat) (h : i < l.length) (h' : i < m.length) (hn : sameN l[i] m[i] = false) : sameL l m = false := by
  cases e : sameL l m with
  | false => rfl
  | true =>
    have := (sameL_iff l m).1 e
    subst this
    rw [(sameN_iff _ _).2 rfl] at hn
    cases hn
mutual
def NodeR.wt : NodeR → Nat
  | .mk _ ks _ _ _ => 1 + wtL ks
def wtL : List NodeR → Nat
  | [] => 0
  | n :: l => n.wt + wtL l
end
theorem wtL_at : ∀ (l : List NodeR) (i : Nat) (h : i < l.length), l[i].wt ≤ wtL l
  | [], i, h => by simp at h
  | a :: l, 0, _ => by simp [wtL]
  | a :: l, i + 1, h => by
    have := wtL_at l i (by simpa using h)
    simp only [List.getElem_cons_succ, wtL]
    omega
/-- What may be reckoned with. -/
def I64 (x : Int) : Prop := -9223372036854775808 ≤ x ∧ x ≤ 9223372036854775807
mutual
def NodeR.Fit : NodeR → Prop
  | .mk k ks f s x => I64 k ∧ I64 x ∧ f.size ≤ 140737488351232 ∧ s.size ≤ 140737488351232 ∧ ks.length ≤ 140737488351232 ∧ kidsFit ks
def kidsFit : List NodeR → Prop
  | [] => True
  | n :: l => n.Fit ∧ kidsFit l
end
theorem kidsFit_at : ∀ (l : List NodeR) (i : Nat) (h : i < l.length), kidsFit l → l[i].Fit
  | [], i, h, _ => by simp at h
  | a :: l, 0, _, h => by unfold kidsFit at h; exact h.1
  | a :: l, i + 1, hi, h => by
    unfold kidsFit at h
    exact kidsFit_at l i (by simpa using hi) h.2
theorem kidsIn_at {S : Nat → Prop} {w : World} {b : Nat} : ∀ (l : List NodeR) (o i : Nat) (h : i < l.length), kidsIn S w b l o →
    ∃ c0 c1 c2 c3 c4, w.cell? ⟨b, o + i * 5, none⟩ = some c0 ∧ w.cell? ⟨b, o + i * 5 + 1, none⟩ = some c1 ∧ w.cell? ⟨b, o + i * 5 + 2, none⟩ = some c2 ∧ w.cell? ⟨b, o + i * 5 + 3, none⟩ = some c3 ∧ w.cell? ⟨b, o + i * 5 + 4, none⟩ = some c4 ∧ l[i].In S w (.agg #[c0, c1, c2, c3, c4])
  | [], o, i, h, _ => by simp at h
  | a :: l, o, 0, _, h => by
    unfold kidsIn at h
    simpa using h.1
  | a :: l, o, i + 1, hi, h => by
    unfold kidsIn at h
    have := kidsIn_at l (o + 5) i (by simpa using hi) h.2
    rw [show o + (i + 1) * 5 = o + 5 + i * 5 from by omega]
    exact this
/-- The i-th kid of a node in memory. -/
theorem NodeR.In.kid {S : Nat → Prop} {w : World} {k : Int} {ks : List NodeR} {f s : ByteArray} {x : Int} {p : Option Addr} {n c : Nat} {k' : Int} {f' s' : ByteArray} {x' : Int} (h : (NodeR.mk k ks f s x).In S w (.agg #[.int .i64 k', .slice p n c, .string f', .string s', .int .i64 x'])) :
    k' = k ∧ f' = f ∧ s' = s ∧ x' = x ∧ n = ks.length ∧ n ≤ c ∧ (0 < n → ∃ b o, p = some ⟨b, o, none⟩ ∧ b < w.heap.size ∧ ∀ i (h : i < ks.length), ∃ ck : Int, ∃ cp cn cc, ∃ cf cs : ByteArray, ∃ cx : Int, w.cell? ⟨b, o + i * 5, none⟩ = some (.int .i64 ck) ∧ w.cell? ⟨b, o + i * 5 + 1, none⟩ = some (.slice cp cn cc) ∧ w.cell? ⟨b, o + i * 5 + 2, none⟩ = some (.string cf) ∧ w.cell? ⟨b, o + i * 5 + 3, none⟩ = some (.string cs) ∧ w.cell? ⟨b, o + i * 5 + 4, none⟩ = some (.int .i64 cx) ∧ ks[i].In S w (.agg #[.int .i64 ck, .slice cp cn cc, .string cf, .string cs, .int .i64 cx])) := by
  unfold NodeR.In at h
  obtain ⟨p', cap, hv, hc, hk⟩ := h
  simp only [Value.agg.injEq, Array.mk.injEq, List.cons.injEq, Value.int.injEq, Value.slice.injEq, Value.string.injEq, and_true, true_and] at hv
  obtain ⟨rfl, ⟨rfl, rfl, rfl⟩, rfl, rfl, rfl⟩ := hv
  refine ⟨rfl, rfl, rfl, rfl, rfl, hc, fun hn => ?_⟩
  obtain ⟨b, o, rfl, -, hb, hks⟩ := hk (List.length_pos_iff.1 hn)
  refine ⟨b, o, rfl, hb, fun i hi => ?_⟩
  obtain ⟨c0, c1, c2, c3, c4, h0, h1, h2, h3, h4, hin⟩ := kidsIn_at ks o i hi hks
  obtain ⟨ck, cp, cn, cc, cf, cs, cx, e⟩ := NodeR.In.value hin
  simp only [Value.agg.injEq, Array.mk.injEq, List.cons.injEq, and_true] at e
  obtain ⟨rfl, rfl, rfl, rfl, rfl⟩ := e
  exact ⟨ck, cp, cn, cc, cf, cs, cx, h0, h1, h2, h3, h4, hin⟩
end Go.Proofs.YteilkcdbdpkbfaaDoor
