/- Lists of operations that are put together in a row of one's own. -/
import Derived.Test.YtlhgdbangnohjaaMOps
import Derived.Test.YtlhgdbangnohjaaMAll
import Derived.Deep.Upon
import Derived.Lib.JoinLaws
import Derived.Lib.AppendZeros
namespace Go.Proofs.Ytlhgdbangnohjaa
open Go.RowKit
set_option linter.unusedVariables false
set_option linter.unusedSimpArgs false
/-- An operation's cells. -/
def OpR.row (o : OpR) : List Value := [.int .i64 o.id, .int .i64 o.proc, .int .i64 o.obj, .int .i64 o.kind, .int .i64 o.meth, .int .i64 o.arg, .int .i64 o.sec, .bool o.done, .int .i64 o.res, .int .i64 o.inv, .int .i64 o.ret]
def opCells (l : List OpR) : List Value := l.flatMap OpR.row
theorem opCells_append (a b : List OpR) : opCells (a ++ b) = opCells a ++ opCells b := by simp [opCells]
theorem opCells_length : ∀ l : List OpR, (opCells l).length = l.length * 11
  | [] => rfl
  | o :: l => by
    have := opCells_length l
    simp only [opCells, List.flatMap_cons, List.length_append, List.length_cons] at this ⊢
    rw [this]
    simp [OpR.row]
    omega
theorem opCells_at : ∀ (l : List OpR) (i r : Nat) (hi : i < l.length), r < 11 → (opCells l)[i * 11 + r]? = (l[i].row)[r]?
  | [], i, r, hi, _ => by simp at hi
  | o :: l, 0, r, hi, hr => by
    simp only [opCells, List.flatMap_cons, Nat.zero_mul, Nat.zero_add, List.getElem_cons_zero]
    rw [List.getElem?_append_left (by simp [OpR.row]; omega)]
  | o :: l, i + 1, r, hi, hr => by
    have ih := opCells_at l i r (by simpa using hi) hr
    simp only [opCells, List.flatMap_cons, List.getElem_cons_succ] at ih ⊢
    rw [List.getElem?_append_right (by simp [OpR.row]; omega)]
    have : (i + 1) * 11 + r - o.row.length = i * 11 + r := by simp [OpR.row]; omega
    rw [this, ih]
theorem opCells_one (l : List OpR) : ∀ u ∈ opCells l, u.oneCell' = true := by
  intro u hu
  obtain ⟨o, _, h⟩ := List.mem_flatMap.1 hu
  simp only [OpR.row, List.mem_cons, List.not_mem_nil, or_false] at h
  rcases h with rfl | rfl | rfl | rfl | rfl | rfl | rfl | rfl | rfl | rfl | rfl <;> rfl
theorem OpAt.cell {w : World} {b o r : Nat} {x : OpR} {u : Value} (h : OpAt w b o x) (hr : r < 11) (hu : x.row[r]? = some u) : w.cell? ⟨b, o + r, none⟩ = some u := by
  unfold OpAt at h
  obtain ⟨h0, h1, h2, h3, h4, h5, h6, h7, h8, h9, h10⟩ := h
  have : r = 0 ∨ r = 1 ∨ r = 2 ∨ r = 3 ∨ r = 4 ∨ r = 5 ∨ r = 6 ∨ r = 7 ∨ r = 8 ∨ r = 9 ∨ r = 10 := by omega
  rcases this with rfl | rfl | rfl | rfl | rfl | rfl | rfl | rfl | rfl | rfl | rfl
  all_goals simp only [OpR.row, List.getElem?_cons_zero, List.getElem?_cons_succ, Option.some.injEq] at hu
  all_goals subst hu
  all_goals assumption
/-- What a list that is read hands to an append. -/
theorem Ops.src {w : World} {p : Option Addr} {n cap : Nat} {l : List OpR} (h : Ops w (.slice p n cap) l) : n = l.length ∧ ((p = none ∧ l = []) ∨ ∃ ad, p = some ad ∧ ∀ j u, (opCells l)[j]? = some u → w.cell? (ad.add j) = some u) := by
  obtain ⟨q, c, e, hl, hc⟩ := h
  cases e
  refine ⟨rfl, ?_⟩
  cases p with
  | none =>
    left
    refine ⟨rfl, ?_⟩
    cases l with
    | nil => rfl
    | cons o l =>
      obtain ⟨b, off, e, _⟩ := hc (by simp)
      cases e
  | some ad =>
    right
    refine ⟨ad, rfl, fun j u hu => ?_⟩
    have hj : j < l.length * 11 := by
      have := (List.getElem?_eq_some_iff.1 hu).1
      rwa [opCells_length] at this
    obtain ⟨b, off, e, H⟩ := hc (by omega)
    cases e
    have hi : j / 11 < l.length := by omega
    have := H (j / 11) hi
    have hj2 : j = j / 11 * 11 + j % 11 := by omega
    rw [hj2, opCells_at l (j / 11) (j % 11) hi (by omega)] at hu
    have := this.cell (r := j % 11) (by omega) hu
    rw [Addr.add_lit, hj2, ← Nat.add_assoc]
    exact this
theorem Ops.of_own {w : World} {base : Nat} {e : TypeId} {v : Value} {n : Nat} {l : List OpR} (h : w.ownsRow base e 11 v n (opCells l)) (hl : n ≤ 1600000000000) : Ops w v l := by
  have hn : l.length = n := by have := h.1; rw [opCells_length] at this; omega
  rcases h.2 with ⟨rfl, rfl⟩ | ⟨g, cap, cur, rfl, hb, hg, hnc, hcm, hcs, htake⟩
  · have : l = [] := List.eq_nil_of_length_eq_zero hn
    subst this
    exact Ops.nil w
  · refine ⟨_, cap, by rw [hn], by omega, fun _ => ⟨g, 0, rfl, fun i hi => ?_⟩⟩
    have key : ∀ r, r < 11 → w.cell? ⟨g, 0 + i * 11 + r, none⟩ = (l[i].row)[r]? := fun r hr => by
      rw [← opCells_at l i r hi hr, ← htake, List.getElem?_take, if_pos (by omega), heap_cell hg, ← Array.getElem?_toList, show 0 + i * 11 + r = i * 11 + r by omega]
    exact ⟨key 0 (by omega), key 1 (by omega), key 2 (by omega), key 3 (by omega), key 4 (by omega), key 5 (by omega), key 6 (by omega), key 7 (by omega), key 8 (by omega), key 9 (by omega), key 10 (by omega)⟩
/-- The element type's row of the program's table. -/
theorem infoOpM : Info Try.prog 52 (.agg #[.int .i64 0, .int .i64 0, .int .i64 0, .int .i64 0, .int .i64 0, .int .i64 0, .int .i64 0, .bool false, .int .i64 0, .int .i64 0, .int .i64 0]) 11 88 := by unfold Info; kernel_rfl
theorem wpList_append_ops {w : World} {ops : Array Oper} {rest : List Oper} {o : Oper} {a : Act} {Q : Exit → Act → World → Prop} (hgd : o.guard = none) (s x : Operand)
    (ho : o.op = .call { callee := .builtin .append, args := #[s, x], argTypes := #[38, 38] })
    (base : Nat) (v : Value) (n : Nat) (xs : List OpR) (hs : a.eval s = v) (hown : w.ownsRow base 52 11 v n (opCells xs))
    (p : Option Addr) (m c : Nat) (l : List OpR) (hx : a.eval x = .slice p m c) (hl : Ops w (.slice p m c) l) (hbytes : (n + m) * 88 ≤ 140737488355328) (hbase : base ≤ w.heap.size)
    (h : ∀ v' w', w'.ownsRow base 52 11 v' (n + m) (opCells (xs ++ l)) → w.grownBy w' v.ownBlock → wpList Try.prog ops Q rest (a.put o.dst v') w') : wpList Try.prog ops Q (o :: rest) a w := by
  obtain ⟨i0, hi0, hz0, hz1, hz2⟩ := info_parts infoOpM
  obtain ⟨hml, hc⟩ := hl.src
  rcases hc with ⟨rfl, rfl⟩ | ⟨ad, rfl, hnews⟩
  · obtain rfl : m = 0 := by simpa using hml
    obtain ⟨A, k, e⟩ := own_formM hown
    have hle : n ≤ k := by
      rcases hown.2 with ⟨h1, h2⟩ | ⟨g, cap, cur, h1, _, _, h2, _⟩
      · rw [h2]; omega
      · rw [e] at h1; cases h1; exact h2
    refine Lib.wpList_append_run w hgd s x _ _ ho _ _ (hs.trans e) hx _ _ (run_append_nothing w _ _ _ _ i0 Try.underlying38 hi0 A n k hle _ (Src.ofNil w Try.underlying38 c)) ?_
    rw [← e]
    exact h v w (by simpa using hown) ⟨rfl, rfl, rfl, Nat.le_refl _, fun _ _ _ => rfl⟩
  · refine wpList_append_own w hgd s x 38 ho base 52 i0 _ 11 88 Try.underlying38 hi0 hz0 hz1 hz2 rfl (by omega) v n (opCells xs) hs hown ad m c (opCells l) hx (by rw [opCells_length, hml]) hnews (opCells_one l) (by unfold maxLen; omega) hbytes hbase ?_
    intro v' w' h1 h2 _
    rw [← opCells_append] at h1
    exact h v' w' h1 h2
end Go.Proofs.Ytlhgdbangnohjaa
