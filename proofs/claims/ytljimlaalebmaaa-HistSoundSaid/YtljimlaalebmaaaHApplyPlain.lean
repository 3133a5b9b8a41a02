/- An edit of a history, plainly. -/
import Derived.Test.YtljimlaalebmaaaHPlain
namespace Go.Proofs.Ytljimlaalebmaaa
open Go.RowKit
set_option linter.unusedVariables false
/-- An operation as an edit makes it, and what is wrong with that. -/
def changedL (o : OpR) (k : Int) (e : OpR) : OpR × Int :=
  if k = 3 then ({ o with inv := e.inv, ret := e.ret }, 0)
  else if k = 4 then ({ o with meth := e.meth, arg := e.arg, sec := e.sec, res := e.res }, 0)
  else if k = 5 then (if o.done then (o, 8) else ({ o with done := true, res := e.res, ret := e.ret }, 0))
  else if k = 6 then (if o.done then ({ o with done := false, res := 0, ret := 0 }, 0) else (o, 8))
  else (o, 0)
theorem changedL_id (o : OpR) (k : Int) (e : OpR) : (changedL o k e).1.id = o.id := by
  unfold changedL
  repeat' split
  all_goals rfl
/-- What is behind an edit: the history, the operation before and behind, and what is wrong. -/
abbrev Edited := List OpR × OpR × OpR × Int
/-- What is wrong with an operation that is added. -/
def addE (l : List OpR) (o : OpR) (there : Bool) : Int :=
  if checkE o ≠ 0 then checkE o else if there then 7 else if besideE l o ≠ 0 then besideE l o else if 64 ≤ l.length then 34 else 0
def addL (l : List OpR) (o : OpR) (i : Nat) (there : Bool) : Edited :=
  if addE l o there ≠ 0 then ([], opZ, opZ, addE l o there) else (l.take i ++ o :: l.drop i, opZ, o, 0)
/-- What is wrong with an operation that is changed. -/
def setE (l : List OpR) (c : OpR × Int) : Int := if c.2 ≠ 0 then c.2 else if checkE c.1 ≠ 0 then checkE c.1 else besideE l c.1
def applyL (l : List OpR) (k : Int) (e : OpR) : Edited :=
  if k < 1 ∨ 6 < k then ([], opZ, opZ, 1)
  else if k = 1 then addL l e (placeL l e.id) (thereB l e.id)
  else if thereB l e.id = false then ([], opZ, opZ, 6)
  else if k = 2 then (l.take (placeL l e.id) ++ l.drop (placeL l e.id + 1), opAt l (placeL l e.id), opZ, 0)
  else if setE l (changedL (opAt l (placeL l e.id)) k e) ≠ 0 then ([], opZ, opZ, setE l (changedL (opAt l (placeL l e.id)) k e))
  else (l.set (placeL l e.id) (changedL (opAt l (placeL l e.id)) k e).1, opAt l (placeL l e.id), (changedL (opAt l (placeL l e.id)) k e).1, 0)
theorem thereB_mem {l : List OpR} {x : Int} : thereB l x = true ↔ ∃ o ∈ l, o.id = x := by
  unfold thereB
  rw [List.any_eq_true]
  constructor
  · rintro ⟨o, h, e⟩; exact ⟨o, h, by simpa using e⟩
  · rintro ⟨o, h, e⟩; exact ⟨o, h, by simpa using e⟩
theorem placeL_le (l : List OpR) (x : Int) : placeL l x ≤ l.length := by
  induction l with
  | nil => exact Nat.le_refl 0
  | cons o l ih =>
    unfold placeL
    split
    · simp; omega
    · simp
theorem befB_irrefl_busy (o p : OpR) (h : p.id = o.id) : busyB o p = false ∧ kindB o p = false := by
  constructor <;> simp [busyB, kindB, h]
/-- What is wrong beside others does not hang on the others' order, nor on one of the same number. -/
theorem besideE_of {l m : List OpR} {o : OpR} (h : ∀ p, p.id ≠ o.id → (p ∈ l ↔ p ∈ m)) : besideE l o = besideE m o := by
  have hk : l.any (kindB o) = m.any (kindB o) := by
    rw [Bool.eq_iff_iff, List.any_eq_true, List.any_eq_true]
    constructor
    · rintro ⟨p, hp, e⟩
      have : p.id ≠ o.id := by intro e2; rw [(befB_irrefl_busy o p e2).2] at e; cases e
      exact ⟨p, (h p this).1 hp, e⟩
    · rintro ⟨p, hp, e⟩
      have : p.id ≠ o.id := by intro e2; rw [(befB_irrefl_busy o p e2).2] at e; cases e
      exact ⟨p, (h p this).2 hp, e⟩
  have hb : l.any (busyB o) = m.any (busyB o) := by
    rw [Bool.eq_iff_iff, List.any_eq_true, List.any_eq_true]
    constructor
    · rintro ⟨p, hp, e⟩
      have : p.id ≠ o.id := by intro e2; rw [(befB_irrefl_busy o p e2).1] at e; cases e
      exact ⟨p, (h p this).1 hp, e⟩
    · rintro ⟨p, hp, e⟩
      have : p.id ≠ o.id := by intro e2; rw [(befB_irrefl_busy o p e2).1] at e; cases e
      exact ⟨p, (h p this).2 hp, e⟩
  unfold besideE
  rw [hk, hb]
end Go.Proofs.Ytljimlaalebmaaa
