/- Plain laws on operations: which may be, which are before others. -/
import Derived.Test.YtlhgdbangnohjaaRely
namespace Go.Proofs.Ytlhgdbangnohjaa
set_option linter.unusedVariables false

/-- An operation. -/
structure OpR where
  id : Int
  proc : Int
  obj : Int
  kind : Int
  meth : Int
  arg : Int
  sec : Int
  done : Bool
  res : Int
  inv : Int
  ret : Int

/-- Has a kind a method? -/
def fitsB (k m : Int) : Bool := decide (k = 1 ∧ 1 ≤ m ∧ m ≤ 3 ∨ k = 2 ∧ (m = 1 ∨ m = 4 ∨ m = 5) ∨ k = 3 ∧ (m = 6 ∨ m = 7) ∨ k = 4 ∧ (m = 8 ∨ m = 9) ∨ k = 5 ∧ 10 ≤ m ∧ m ≤ 12 ∨ k = 6 ∧ (m = 13 ∨ m = 14))
/-- May a number be a value? -/
def valB (n : Int) : Bool := decide (0 ≤ n ∧ n ≤ 1073741824)
/-- Has an operation just the arguments that it needs? -/
def argsB (m a s : Int) : Bool := decide (m = 3 ∧ 0 ≤ a ∧ a ≤ 1073741824 ∧ 0 ≤ s ∧ s ≤ 1073741824 ∨
  (m = 2 ∨ m = 6 ∨ m = 8 ∨ m = 10 ∨ m = 11 ∨ m = 12) ∧ 0 ≤ a ∧ a ≤ 1073741824 ∧ s = 0 ∨ ¬ (m = 3 ∨ m = 2 ∨ m = 6 ∨ m = 8 ∨ m = 10 ∨ m = 11 ∨ m = 12) ∧ a = 0 ∧ s = 0)
/-- May an answer be one of an operation's? -/
def resB (k m r : Int) : Bool := decide (m = 1 ∧ (0 ≤ r ∧ r ≤ 1073741824 ∨ k = 2 ∧ -1073741824 ≤ r ∧ r ≤ 0) ∨ (m = 3 ∨ m = 10 ∨ m = 11 ∨ m = 12) ∧ (r = 0 ∨ r = 1) ∨
  (m = 7 ∨ m = 9) ∧ -1 ≤ r ∧ r ≤ 1073741824 ∨ ¬ (m = 1 ∨ m = 3 ∨ m = 10 ∨ m = 11 ∨ m = 12 ∨ m = 7 ∨ m = 9) ∧ r = 0)
def bad1 (o : OpR) : Bool := decide (o.id < 1 ∨ 1073741824 < o.id ∨ o.proc < 0 ∨ 1023 < o.proc ∨ o.obj < 0 ∨ 1023 < o.obj)
def bad2 (o : OpR) : Bool := !fitsB o.kind o.meth || (!argsB o.meth o.arg o.sec || (o.done && !resB o.kind o.meth o.res || (!o.done && decide (o.res ≠ 0))))
def bad3 (o : OpR) : Bool := decide (o.inv < 0 ∨ 1099511627776 < o.inv) || (o.done && decide (o.ret ≤ o.inv ∨ 1099511627776 < o.ret) || (!o.done && decide (o.ret ≠ 0)))
/-- What is wrong with an operation: 0: nothing. -/
def checkE (o : OpR) : Int := if bad1 o then 30 else if bad2 o then 33 else if bad3 o then 31 else 0
/-- Was an operation answered ahead of another one's invocation? -/
def befB (a b : OpR) : Bool := a.done && decide (a.ret < b.inv)

theorem checkE_1 (o : OpR) (h : bad1 o = true) : checkE o = 30 := by unfold checkE; rw [if_pos h]
theorem checkE_2 (o : OpR) (h1 : bad1 o = false) (h : bad2 o = true) : checkE o = 33 := by unfold checkE; rw [if_neg (by rw [h1]; decide), if_pos h]
theorem checkE_3 (o : OpR) (h1 : bad1 o = false) (h2 : bad2 o = false) (h : bad3 o = true) : checkE o = 31 := by unfold checkE; rw [if_neg (by rw [h1]; decide), if_neg (by rw [h2]; decide), if_pos h]
theorem checkE_0 (o : OpR) (h1 : bad1 o = false) (h2 : bad2 o = false) (h : bad3 o = false) : checkE o = 0 := by unfold checkE; rw [if_neg (by rw [h1]; decide), if_neg (by rw [h2]; decide), if_neg (by rw [h]; decide)]
theorem checkE_ok {o : OpR} (h : checkE o = 0) : bad1 o = false ∧ bad2 o = false ∧ bad3 o = false := by
  unfold checkE at h
  cases h1 : bad1 o <;> cases h2 : bad2 o <;> cases h3 : bad3 o <;> simp [h1, h2, h3] at h ⊢

theorem ret_bool {a b : Bool} (h : a = b) : Ending.returned (.bool a) = .returned (.bool b) := by rw [h]
theorem ret_int {k : IntKind} {a b : Int} (h : a = b) : Ending.returned (.int k a) = .returned (.int k b) := by rw [h]
end Go.Proofs.Ytlhgdbangnohjaa
