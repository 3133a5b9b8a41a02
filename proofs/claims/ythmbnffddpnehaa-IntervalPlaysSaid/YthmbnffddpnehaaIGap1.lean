/- The law's own closure for the gaps. -/
import Derived.Test.YthmbnffddpnehaaIMet
namespace Go.Proofs.Ythmbnffddpnehaa
open Go.RowKit
set_option linter.unusedVariables false
set_option linter.unusedSimpArgs false
def sCells (L : List (Int × Int)) : List Value := L.flatMap (fun x => [.int .i64 x.1, .int .i64 x.2])
theorem sCells_append (a b : List (Int × Int)) : sCells (a ++ b) = sCells a ++ sCells b := by simp [sCells]
theorem sCells_length : ∀ l : List (Int × Int), (sCells l).length = l.length * 2
  | [] => rfl
  | o :: l => by
    have := sCells_length l
    simp only [sCells, List.flatMap_cons, List.length_append, List.length_cons] at this ⊢
    rw [this]
    simp
    omega
theorem sCells_at : ∀ (l : List (Int × Int)) (i r : Nat) (hi : i < l.length), r < 2 → (sCells l)[i * 2 + r]? = ([Value.int .i64 l[i].1, Value.int .i64 l[i].2])[r]?
  | [], i, r, hi, _ => by simp at hi
  | o :: l, 0, r, hi, hr => by
    simp only [sCells, List.flatMap_cons, Nat.zero_mul, Nat.zero_add, List.getElem_cons_zero]
    rw [List.getElem?_append_left (by simp; omega)]
  | o :: l, i + 1, r, hi, hr => by
    have ih := sCells_at l i r (by simpa using hi) hr
    simp only [sCells, List.flatMap_cons, List.getElem_cons_succ] at ih ⊢
    rw [List.getElem?_append_right (by simp; omega)]
    have : (i + 1) * 2 + r - ([Value.int .i64 o.1, Value.int .i64 o.2] : List Value).length = i * 2 + r := by simp; omega
    rw [this, ih]
theorem infoSpan : Info Try.prog 36 (.agg #[.int .i64 0, .int .i64 0]) 2 16 := by unfold Info; kernel_rfl
def notSpan (o : Obj) : Prop := match o with
  | .cells _ e _ => e ≠ 36
  | _ => True
/-- What was there is as it was, but for one block and rows of spans. -/
def GapKeep (lb : Nat) (w w' : World) : Prop := ∀ (k : Nat) (o : Obj), w.heap[k]? = some o → k ≠ lb → notSpan o → w'.heap[k]? = some o
theorem GapKeep.refl (lb : Nat) (w : World) : GapKeep lb w w := fun _ _ h _ _ => h
theorem GapKeep.trans {lb : Nat} {a b c : World} (h : GapKeep lb a b) (k : GapKeep lb b c) : GapKeep lb a c := fun j o hj hl hn => k j o (h j o hj hl hn) hl hn
theorem GapKeep.grow {lb : Nat} {a b : World} (g : Grow a b) : GapKeep lb a b := fun k o h _ _ => g.heap h
def GapsPost (acc : List (Int × Int)) (x y : Int) (lb base : Nat) (most : Int) (w : World) (e : Ending) (w' : World) : Prop :=
  e = .returned (.bool (decide ((acc.length : Int) + 1 < most))) ∧
      (∃ lv', w'.heap[lb]? = some (.cells #[lv'] 30 (0, 0)) ∧ w'.ownsRow base 36 2 lv' (acc.length + 1) (sCells (acc ++ [(x, y)]))) ∧ Side lb base w w' ∧ GapKeep lb w w'
set_option maxRecDepth 100000 in
set_option maxHeartbeats 2000000 in
theorem gaps1_c (x y : Int) (lb mb base : Nat) (lv : Value) (acc : List (Int × Int)) (most : Int) (w : World) (hl : w.heap[lb]? = some (.cells #[lv] 30 (0, 0))) (hm : w.heap[mb]? = some (.cells #[.int .i64 most] 3 (0, 0)))
    (ho : w.ownsRow base 36 2 lv acc.length (sCells acc)) (hn : acc.length ≤ 1000000) (hlb : lb < base) (hmb : mb < base) (hne : mb ≠ lb) (hbs : base ≤ w.heap.size) :
    Calls Try.prog 33 #[.int .i64 x, .int .i64 y, .pointer (some ⟨lb, 0, none⟩), .pointer (some ⟨mb, 0, none⟩)] w (GapsPost acc x y lb base most w) := by
  have HRB := hid (show ∀ k o, lv.ownBlock = some k → w.heap[k]? = some o → ¬ notSpan o from fun k o hk hh => by
    rcases ho.2 with ⟨h, -⟩ | ⟨g, cap, cur, h, -, hg, -⟩
    · rw [h] at hk; cases hk
    · rw [h] at hk
      have e2 : k = g := (Option.some.inj hk).symm
      rw [e2, hg] at hh
      injection hh with hh
      subst hh
      simp [notSpan])
  obtain ⟨A, c, rfl⟩ := own_form ho
  have c0 : w.cell? ⟨lb, 0, none⟩ = some (.slice A acc.length c) := by rw [heap_cell hl]; rfl
  have hll := heap_lt hl
  have hml := heap_lt hm
  have HL := hid hl
  have HM := hid hm
  have HO := hid ho
  have HOB := hid (fun j hj => (ho.lt j hj).1)
  have HE := hid (sCells_append acc [(x, y)])
  clear hl hm ho
  obtain ⟨n, hN⟩ : ∃ n, n = acc.length := ⟨_, rfl⟩
  unfold GapsPost
  rw [← hN] at c0 hn HO HL HOB HRB ⊢
  have HN := hid hN
  clear hN
  go_enter Try.func33, Try.ntmps33
  go_wp2_with (at_builtin; refine wpList_stop ?_)
  show wpList _ _ _ _ _ _
  apply wpList_pushH w.heap.size rfl
  case hg => rfl
  case hop => rfl
  case ht => exact Try.underlying30
  case hi => exact infoSpan
  case hs => rfl
  case hown => exact HO.out
  case hx => rfl
  case hzs => rfl
  case hsz => omega
  case hcs => rfl
  case h1 => simp [Value.oneCell']
  case h63 => unfold maxLen; omega
  case hbytes => omega
  case hbase => omega
  intro v' w1 ho1 hg1 hs1
  obtain ⟨A1, c1, rfl⟩ : ∃ A c, v' = .slice A (n + 1) c := own_form ho1
  have HS := hid (Side.of_grownBy (lb := lb) (B := base) hg1 hbs HOB.out)
  have HG := hid hg1
  have hl1 : w1.heap[lb]? = some (.cells #[.slice A n c] 30 (0, 0)) := by
    rw [hg1.block lb hll (fun e => by have := HOB.out lb e.symm; omega)]
    exact HL.out
  have hm1 := (hg1.block mb hml (fun e => by have := HOB.out mb e.symm; omega)).trans HM.out
  have d0 : w1.cell? ⟨lb, 0, none⟩ = some (.slice A n c) := by rw [heap_cell hl1]; rfl
  have e0 : w1.frozen? ⟨lb, 0, none⟩ = false := heap_frozen hl1 0 (by omega)
  have k0 : w1.cell? ⟨mb, 0, none⟩ = some (.int .i64 most) := by rw [heap_cell hm1]; rfl
  have hll1 := heap_lt hl1
  have hml1 := heap_lt hm1
  have HL1 := hid hl1
  have HO1 := hid ho1
  clear hl1 hm1 ho1 hg1 c0
  go_wp2_with fail
  go_ret
  have hdec : (decide ((n : Int) + 1 < most)) = decide (((n + 1 : Nat) : Int) < most) := by congr 1
  refine ⟨by first | rfl | (rw [hdec]; rfl) | simp, ⟨.slice A1 (n + 1) c1, heap_set HL1.out 0 _, ?_⟩, HS.out.setCell 0 _, ?_⟩
  · rw [HE.out]
    have ho := HO1.out
    refine ⟨ho.1, ?_⟩
    rcases ho.2 with h | ⟨gg, cc, cur, h, h2, hg, h4⟩
    · exact .inl h
    · exact .inr ⟨gg, cc, cur, h, h2, heap_keep hg _ _ (by show gg ≠ lb; omega), h4⟩
  · intro k o hk hkl hno
    refine heap_keep ?_ _ _ hkl
    exact (HG.out.block k (heap_lt hk) (fun e => HRB.out k o e.symm hk hno)).trans hk
end Go.Proofs.Ythmbnffddpnehaa
