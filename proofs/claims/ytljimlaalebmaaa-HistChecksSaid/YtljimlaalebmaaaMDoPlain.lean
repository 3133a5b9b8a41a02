/- What an operation does with a state. No Go text is spoken of. -/
import Derived.Test.YtljimlaalebmaaaOpPlain
namespace Go.Proofs.Ytljimlaalebmaaa
open Go.RowKit
set_option linter.unusedVariables false
/-- Of a number. -/
def numberL (x : Int) (o : OpR) : List Int × Int × Bool :=
  if o.meth = 1 then ([x], x, true)
  else if o.kind = 1 ∧ o.meth = 2 then ([o.arg], 0, true)
  else if o.kind = 1 ∧ o.meth = 3 ∧ x = o.arg then ([o.sec], 1, true)
  else if o.kind = 1 ∧ o.meth = 3 then ([x], 0, true)
  else if o.kind = 2 ∧ o.meth = 4 then ([wrap64 (x + 1)], 0, true)
  else if o.kind = 2 ∧ o.meth = 5 then ([wrap64 (x - 1)], 0, true)
  else ([], 0, false)
/-- Of a queue, or a stack. -/
def listL (xs : List Int) (o : OpR) : List Int × Int × Bool :=
  if o.kind = 3 ∧ o.meth = 6 ∨ o.kind = 4 ∧ o.meth = 8 then (xs ++ [o.arg], 0, true)
  else if o.kind = 3 ∧ o.meth = 7 then (xs.drop 1, if xs.length = 0 then -1 else xs.getD 0 0, true)
  else if o.kind = 4 ∧ o.meth = 9 then (xs.take (xs.length - 1), if xs.length = 0 then -1 else xs.getD (xs.length - 1) 0, true)
  else ([], 0, false)
/-- Of a mutex. -/
def mutexL (xs : List Int) (o : OpR) : List Int × Int × Bool :=
  if o.meth = 13 ∧ xs.length = 0 then ([o.proc], 0, true)
  else if o.meth = 14 ∧ xs.length = 1 ∧ xs.getD 0 0 = o.proc then ([], 0, true)
  else ([], 0, false)
/-- A number in its place among numbers that rise. -/
def insL (x : Int) : List Int → List Int
  | [] => [x]
  | y :: l => if x < y then x :: y :: l else y :: insL x l
/-- Of a set, whose members rise. -/
def setL (xs : List Int) (o : OpR) : List Int × Int × Bool :=
  if o.meth = 12 then (xs, if o.arg ∈ xs then 1 else 0, true)
  else if o.meth = 10 then (if o.arg ∈ xs then (xs, 0, true) else (insL o.arg xs, 1, true))
  else if o.meth = 11 then (if o.arg ∈ xs then (xs.filter (fun y => decide (y ≠ o.arg)), 1, true) else (xs, 0, true))
  else ([], 0, false)
/-- Of a state. -/
def doL (xs : List Int) (o : OpR) : List Int × Int × Bool :=
  if o.kind = 1 ∨ o.kind = 2 then (if xs.length ≠ 1 then ([], 0, false) else numberL (xs.getD 0 0) o)
  else if o.kind = 3 ∨ o.kind = 4 then listL xs o
  else if o.kind = 5 then setL xs o
  else if o.kind = 6 then mutexL xs o
  else ([], 0, false)
/-- The state behind an operation that had its answer, or has none yet. -/
def stepL (xs : List Int) (o : OpR) : List Int × Bool :=
  if (doL xs o).2.2 = false ∨ o.done = true ∧ (doL xs o).2.1 ≠ o.res then ([], false) else ((doL xs o).1, true)
end Go.Proofs.Ytljimlaalebmaaa
