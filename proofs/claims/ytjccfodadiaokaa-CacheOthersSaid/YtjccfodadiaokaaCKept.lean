/- What is kept, as the laws ask for it. -/
import Derived.Test.YtjccfodadiaokaaCCalls
import Derived.Test.YtjccfodadiaokaaPush
namespace Go.Proofs.Ytjccfodadiaokaa
open Go.RowKit
set_option linter.unusedVariables false
set_option linter.unusedSimpArgs false
/-- What was below is as it was, but for one block. -/
structure Side (lb B : Nat) (w w' : World) : Prop where
  os : w'.os = w.os
  tape : w'.tape = w.tape
  output : w'.output = w.output
  size : w.heap.size ≤ w'.heap.size
  block : ∀ k, k < B → k ≠ lb → w'.heap[k]? = w.heap[k]?
theorem Side.refl (lb B : Nat) (w : World) : Side lb B w w := ⟨rfl, rfl, rfl, Nat.le_refl _, fun _ _ _ => rfl⟩
theorem Side.trans {lb B : Nat} {a b c : World} (h : Side lb B a b) (k : Side lb B b c) : Side lb B a c :=
  ⟨k.os.trans h.os, k.tape.trans h.tape, k.output.trans h.output, Nat.le_trans h.size k.size, fun j hj hl => (k.block j hj hl).trans (h.block j hj hl)⟩
theorem Side.of_below {lb B : Nat} {a b : World} (h : Below B a b) : Side lb B a b := ⟨h.os, h.tape, h.output, h.size, fun k hk _ => h.block k hk⟩
theorem Side.below {lb B C : Nat} {a b : World} (h : Side lb B a b) (hC : C ≤ B) (hl : C ≤ lb) : Below C a b := ⟨h.os, h.tape, h.output, h.size, fun k hk => h.block k (by omega) (by omega)⟩
theorem Side.setCell {lb B : Nat} {a b : World} (h : Side lb B a b) (o : Nat) (v : Value) : Side lb B a (b.setCell ⟨lb, o, none⟩ v) where
  os := by rw [← h.os]; rfl
  tape := by rw [← h.tape]; rfl
  output := by rw [← h.output]; rfl
  size := by simpa using h.size
  block := fun k hk hl => by rw [Below.heap_setCell _ _ _ _ hl, h.block k hk hl]
theorem Side.of_grownBy {lb B : Nat} {row : Option Nat} {a b : World} (h : a.grownBy b row) (hB : B ≤ a.heap.size) (hr : ∀ k, row = some k → B ≤ k) : Side lb B a b :=
  ⟨h.os, h.tape, h.output, h.size, fun k hk _ => h.block k (by omega) (fun e => by have := hr k e.symm; omega)⟩
def CItem.bare (x : CItem) : CItem := ⟨x.key, x.val, 0⟩
theorem infoRItem : Info Try.prog 53 (.agg #[.int .i64 0, .string ByteArray.empty, .int .i64 0]) 3 32 := by unfold Info; kernel_rfl
set_option maxRecDepth 100000 in
set_option maxHeartbeats 2000000 in
theorem kept1_c (k : Int) (s : ByteArray) (lb mb base : Nat) (lv : Value) (acc : List CItem) (most : Int) (w : World) (hl : w.heap[lb]? = some (.cells #[lv] 50 (0, 0))) (hm : w.heap[mb]? = some (.cells #[.int .i64 most] 3 (0, 0)))
    (ho : w.ownsRow base 53 3 lv acc.length (itemCells acc)) (hn : acc.length ≤ 1000000) (hlb : lb < base) (hmb : mb < base) (hne : mb ≠ lb) (hbs : base ≤ w.heap.size) :
    Calls Try.prog 34 #[.int .i64 k, .string s, .pointer (some ⟨lb, 0, none⟩), .pointer (some ⟨mb, 0, none⟩)] w fun e w' => e = .returned (.bool (decide ((acc.length : Int) + 1 < most))) ∧
      ∃ lv', w'.heap[lb]? = some (.cells #[lv'] 50 (0, 0)) ∧ w'.ownsRow base 53 3 lv' (acc.length + 1) (itemCells (acc ++ [⟨k, s, 0⟩])) ∧ Side lb base w w' := by
  obtain ⟨A, c, rfl⟩ : ∃ A c, lv = .slice A acc.length c := by
    rcases ho.2 with ⟨h, h0⟩ | ⟨g, cap, cur, h, _⟩
    · exact ⟨none, 0, by rw [h, h0]⟩
    · exact ⟨_, cap, h⟩
  have c0 : w.cell? ⟨lb, 0, none⟩ = some (.slice A acc.length c) := by rw [heap_cell hl]; rfl
  have f0 : w.frozen? ⟨lb, 0, none⟩ = false := heap_frozen hl 0 (by omega)
  have m0 : w.cell? ⟨mb, 0, none⟩ = some (.int .i64 most) := by rw [heap_cell hm]; rfl
  have hll := heap_lt hl
  have hml := heap_lt hm
  have HL := hid hl
  have HM := hid hm
  have HO := hid ho
  have HOB := hid (fun j hj => (ho.lt j hj).1)
  clear hl hm ho
  obtain ⟨n, hN⟩ : ∃ n, n = acc.length := ⟨_, rfl⟩
  rw [← hN] at c0 hn HO HL HOB ⊢
  have HN := hid hN
  clear hN
  go_enter Try.func34, Try.ntmps34
  go_wp2_with (at_builtin; refine wpList_pushH _ rfl rfl _ _ 50 rfl 53 (.agg #[.int .i64 0, .string ByteArray.empty, .int .i64 0]) 3 32 Try.underlying50 infoRItem rfl (by omega) base _ n _ rfl HO.out [_, _, _] rfl rfl (by simp [Value.oneCell']) (by unfold maxLen; omega) (by omega) hbs ?_)
  intro v' w1 ho1 hg1 hs1
  obtain ⟨A1, c1, rfl⟩ : ∃ A c, v' = .slice A (n + 1) c := by
    rcases ho1.2 with ⟨h, h0⟩ | ⟨g, cap, cur, h, _⟩
    · exact absurd h0 (by omega)
    · exact ⟨_, cap, h⟩
  have HS := hid (Side.of_grownBy (lb := lb) (B := base) hg1 hbs HOB.out)
  have hl1 : w1.heap[lb]? = some (.cells #[.slice A n c] 50 (0, 0)) := by
    rw [hg1.block lb hll (fun e => by have := HOB.out lb e.symm; omega)]
    exact HL.out
  have hm1 := (hg1.block mb hml (fun e => by have := HOB.out mb e.symm; omega)).trans HM.out
  have d0 : w1.cell? ⟨lb, 0, none⟩ = some (.slice A n c) := by rw [heap_cell hl1]; rfl
  have e0 : w1.frozen? ⟨lb, 0, none⟩ = false := heap_frozen hl1 0 (by omega)
  have k0 : w1.cell? ⟨mb, 0, none⟩ = some (.int .i64 most) := by rw [heap_cell hm1]; rfl
  have hll1 := heap_lt hl1
  have hml1 := heap_lt hm1
  have HL1 := hid hl1
  have HO1 := hid ho1
  clear hl1 hm1 ho1 hg1 c0 f0 m0
  go_wp2_with fail
  go_ret
  have hdec : (decide ((n : Int) + 1 < most)) = decide (((n + 1 : Nat) : Int) < most) := by congr 1
  refine ⟨by first | rfl | (rw [hdec]; rfl) | simp, .slice A1 (n + 1) c1, heap_set HL1.out 0 _, ?_, HS.out.setCell 0 _⟩
  have e : itemCells (acc ++ [⟨k, s, 0⟩]) = itemCells acc ++ [.int .i64 k, .string s, .int .i64 0] := by rw [itemCells_append]; rfl
  rw [e]
  have ho := HO1.out
  refine ⟨ho.1, ?_⟩
  rcases ho.2 with h | ⟨gg, cc, cur, h, h2, hg, h4⟩
  · exact .inl h
  · exact .inr ⟨gg, cc, cur, h, h2, heap_keep hg _ _ (by show gg ≠ lb; omega), h4⟩
end Go.Proofs.Ytjccfodadiaokaa
