/- What model.State and the reference's State compute. -/
import Derived.Test.YtljimlaalebmaaaMText
import Derived.Test.YtljimlaalebmaaaUnvar
import Derived.Test.YtljimlaalebmaaaRUnvar
namespace Go.Proofs.Ytljimlaalebmaaa
open Go.RowKit
set_option linter.unusedVariables false
set_option linter.unusedSimpArgs false
theorem infoIntM : Info Try.prog 3 (.int .i64 0) 1 8 := by unfold Info; kernel_rfl
theorem push_intM (xs : List Int) (x : Int) : i64s xs ++ [.int .i64 x] = i64s (xs ++ [x]) := by simp [i64s]
theorem own_growM {w w' : World} {base : Nat} {e : TypeId} {size : Nat} {v : Value} {n : Nat} {xs : List Value} (h : w.ownsRow base e size v n xs) (hg : Grow w w') : w'.ownsRow base e size v n xs :=
  h.kept (row := none) ⟨hg.os, hg.tape, hg.output, hg.size, fun k hk _ => hg.block k hk⟩ (by cases v.ownBlock <;> simp)
theorem own_formM {w : World} {base : Nat} {e : TypeId} {size : Nat} {v : Value} {n : Nat} {xs : List Value} (h : w.ownsRow base e size v n xs) : ∃ A c, v = .slice A n c := by
  rcases h.2 with ⟨rfl, rfl⟩ | ⟨g, cap, cur, rfl, _⟩
  · exact ⟨_, _, rfl⟩
  · exact ⟨_, _, rfl⟩
theorem rest_bytesM (s : ByteArray) (i : Nat) : (s.extract i s.size).data.toList = s.data.toList.drop i := by
  have : s.data.toList.drop i = (s.data.toList.drop i).take (s.size - i) := by rw [List.take_of_length_le (by simp)]
  rw [this]
  simp [ByteArray.data_extract]
/-- What is left of the reading, the numbers so far ahead of it. -/
def fin (acc : List Int) (a : Nat) : Option (List Int × Nat) → List Int × Nat
  | none => ([], 0)
  | some (l, i) => (acc ++ l, a + i)
theorem fin_step {acc : List Int} {a m : Nat} {L : List UInt8} (hk : (unvarP (L.drop a)).2 ≠ 0) :
    fin acc a (rdN (m + 1) (L.drop a)) = fin (acc ++ [unfoldV ((unvarP (L.drop a)).1 : Int)]) (a + (unvarP (L.drop a)).2) (rdN m (L.drop (a + (unvarP (L.drop a)).2))) := by
  rw [rdN_step hk, List.drop_drop]
  cases rdN m (L.drop (a + (unvarP (L.drop a)).2)) with
  | none => rfl
  | some p => simp only [fin, Option.map_some, List.append_assoc, List.cons_append, List.nil_append]; rw [Nat.add_assoc]
theorem fin_fail {acc : List Int} {a m : Nat} {L : List UInt8} (hk : (unvarP (L.drop a)).2 = 0) : fin acc a (rdN (m + 1) (L.drop a)) = ([], 0) := by rw [rdN_fail hk]; rfl
def StatePost (R : List Int × Nat) (w : World) (e : Ending) (w' : World) : Prop := ∃ v, e = .returned (.tuple #[v, .int .i64 (R.2 : Int)]) ∧ Ints w' v R.1 ∧ Grow w w'
end Go.Proofs.Ytljimlaalebmaaa
