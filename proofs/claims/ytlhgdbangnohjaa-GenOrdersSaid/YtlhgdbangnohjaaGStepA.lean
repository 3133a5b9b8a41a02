/- The code behind a region. -/
import Derived.Test.YtlhgdbangnohjaaGStepU
namespace Go.Proofs.Ytlhgdbangnohjaa
open Go.RowKit
/-- The code behind a region. -/
def codeAfter (k : Nat) : Code → Option Code
  | .seq (.region id _ _) b => if id = k then some b else codeAfter k b
  | .seq a b => (codeAfter k a).orElse fun _ => codeAfter k b
  | .cond _ a b => (codeAfter k a).orElse fun _ => codeAfter k b
  | .block _ b => codeAfter k b
  | .loop b => codeAfter k b
  | .scope b => codeAfter k b
  | _ => none
def funcAfter (f : Func) (k : Nat) : Option Code := f.body.bind (codeAfter k)
def startsAt (k : Nat) : Code → Bool
  | .region id _ _ => id == k
  | .seq a _ => startsAt k a
  | _ => false
/-- The code from a region on. -/
def codeFrom (k : Nat) : Code → Option Code
  | .seq a b => if startsAt k a then some (.seq a b) else (codeFrom k a).orElse fun _ => codeFrom k b
  | .cond _ a b => (codeFrom k a).orElse fun _ => codeFrom k b
  | .block _ b => codeFrom k b
  | .loop b => codeFrom k b
  | .scope b => codeFrom k b
  | _ => none
def funcFrom (f : Func) (k : Nat) : Option Code := f.body.bind (codeFrom k)
/-- The branch that a slot decides. -/
def codeCond (k : Nat) : Code → Option Code
  | .seq a b => (codeCond k a).orElse fun _ => codeCond k b
  | .cond (.tmp j) a b => if j = k then some (.cond (.tmp j) a b) else (codeCond k a).orElse fun _ => codeCond k b
  | .cond _ a b => (codeCond k a).orElse fun _ => codeCond k b
  | .block _ b => codeCond k b
  | .loop b => codeCond k b
  | .scope b => codeCond k b
  | _ => none
def funcCond (f : Func) (k : Nat) : Option Code := f.body.bind (codeCond k)
theorem code_of {P : Program} {o : Option Code} {c c' : Code} {Q : Exit → Act → World → Prop} {a : Act} {w : World} (h : o = some c) (h' : o = some c') (hw : c'.wp P Q a w) : c.wp P Q a w := by
  rw [h] at h'
  cases h'
  exact hw
theorem after_of {P : Program} {f : Func} {k : Nat} {c c' : Code} {Q : Exit → Act → World → Prop} {a : Act} {w : World} (h : funcAfter f k = some c) (h' : funcAfter f k = some c') (hw : c'.wp P Q a w) : c.wp P Q a w := by
  rw [h] at h'
  cases h'
  exact hw
end Go.Proofs.Ytlhgdbangnohjaa
