/- How a history is made, plainly: one step, and all. -/
import Derived.Test.YtlhgdbangnohjaaGenBelow
import Derived.Test.YtlhgdbangnohjaaMAll
namespace Go.Proofs.Ytlhgdbangnohjaa
open Go.RowKit
set_option linter.unusedVariables false
/-- What there is as a history is made. -/
structure GenW where
  x : Int
  free : List Int
  gone : List Bool
  states : List (List Int)
  now : Int
  l : List OpR
/-- What a history is made by. -/
structure GenC where
  seed : Int
  procs : Int
  objects : Int
  ops : Int
  wrong : Int
  pending : Int
def GenC.good (c : GenC) : Prop := 1 ≤ c.procs ∧ c.procs ≤ 16 ∧ 1 ≤ c.objects ∧ c.objects ≤ 16 ∧ 0 ≤ c.ops ∧ c.ops ≤ 64 ∧ 0 ≤ c.wrong ∧ c.wrong ≤ 100 ∧ 0 ≤ c.pending ∧ c.pending ≤ 100
instance (c : GenC) : Decidable c.good := by unfold GenC.good; exact inferInstance
/-- A number below one that is at least 1. -/
def belowV (x n : Int) : Int := told (nxt x) % n
theorem belV_pos {x n : Int} (h : 1 ≤ n) : belV x n = belowV x n := by unfold belV belowV; rw [if_neg (by omega)]
theorem belX_pos {x n : Int} (h : 1 ≤ n) : belX x n = nxt x := by unfold belX; rw [if_neg (by omega)]
theorem belowV_lo {x n : Int} (h : 1 ≤ n) : 0 ≤ belowV x n := Int.emod_nonneg _ (by omega)
theorem belowV_hi {x n : Int} (h : 1 ≤ n) : belowV x n < n := Int.emod_lt_of_pos _ (by omega)
/-- The first process from one on that still asks. -/
def chooseL (gone : List Bool) (procs first : Nat) : Nat → Nat → Option Nat
  | 0, _ => none
  | n + 1, i => if gone.getD ((first + i) % procs) false = false then some ((first + i) % procs) else chooseL gone procs first n (i + 1)
def methodsL (k : Int) : List Int := if k = 1 then [1, 2, 3] else if k = 2 then [1, 4, 5] else if k = 3 then [6, 7] else if k = 4 then [8, 9] else if k = 5 then [10, 12, 11] else [13, 14]
/-- What a process asks an object for; the number behind. -/
def askL (x id proc object : Int) : Int × OpR :=
  let m := (methodsL (object % 6 + 1)).getD (belowV x (methodsL (object % 6 + 1)).length).toNat 0
  let o : OpR := { id := id, proc := proc, obj := object, kind := object % 6 + 1, meth := m, arg := 0, sec := 0, done := false, res := 0, inv := 0, ret := 0 }
  if m = 3 then (nxt (nxt (nxt x)), { o with arg := belowV (nxt x) 4, sec := belowV (nxt (nxt x)) 4 })
  else if m = 2 ∨ m = 6 ∨ m = 8 ∨ m = 10 ∨ m = 11 ∨ m = 12 then (nxt (nxt x), { o with arg := belowV (nxt x) 4 })
  else (nxt x, o)
/-- What a mutex can do of it; none: its holder is gone. -/
def turnL (g : GenW) (o : OpR) : Option OpR :=
  if o.kind = 6 then
    (match g.states.getD o.obj.toNat [] with
      | [] => some { o with meth := 13 }
      | p :: _ => if g.gone.getD p.toNat false = true then none else some { o with proc := p, meth := 14 })
  else some o
/-- Another answer. -/
def wrongL (o : OpR) : Int :=
  if o.meth = 3 ∨ o.meth = 10 ∨ o.meth = 11 ∨ o.meth = 12 then 1 - o.res
  else if o.meth = 1 ∨ o.meth = 7 ∨ o.meth = 9 then o.res + 1 else o.res
/-- It gets its times, and is done. -/
def placeG (c : GenC) (g : GenW) (o : OpR) : GenW :=
  let f := g.free.getD o.proc.toNat 0
  let point := imax g.now f + 1 + belowV g.x 4
  let o1 := { o with inv := imax (f + 1) (point - belowV (nxt g.x) 8) }
  let x2 := nxt (nxt g.x)
  let d := doL (g.states.getD o.obj.toNat []) o1
  if d.2.2 = false then { g with x := x2, now := point }
  else
    let x3 := nxt x2
    if belowV x2 100 < c.pending then { x := x3, free := g.free, gone := g.gone.set o.proc.toNat true, states := g.states.set o.obj.toNat d.1, now := point, l := g.l ++ [o1] }
    else
      let ret := point + 1 + belowV x3 8
      let o2 := { o1 with done := true, res := d.2.1, ret := ret }
      { x := nxt (nxt x3), free := g.free.set o.proc.toNat ret, gone := g.gone, states := g.states.set o.obj.toNat d.1, now := point,
        l := g.l ++ [if belowV (nxt x3) 100 < c.wrong then { o2 with res := wrongL o2 } else o2] }
/-- A step, once it is known what is asked for. -/
def stepA (c : GenC) (g : GenW) (y : Int) : Option OpR → GenW
  | none => { g with x := y }
  | some o => placeG c { g with x := y } o
/-- A step, once it is known who asks. -/
def stepB (c : GenC) (g : GenW) (id : Int) : Option Nat → GenW
  | none => { g with x := nxt g.x }
  | some p => stepA c g (askL (nxt (nxt g.x)) id p (belowV (nxt g.x) c.objects)).1 (turnL g (askL (nxt (nxt g.x)) id p (belowV (nxt g.x) c.objects)).2)
/-- One step. -/
def stepG (c : GenC) (g : GenW) (id : Int) : GenW := stepB c g id (chooseL g.gone c.procs.toNat (belowV g.x c.procs).toNat c.procs.toNat 0)
/-- So many steps. -/
def stepsG (c : GenC) (g : GenW) : Nat → GenW
  | 0 => g
  | n + 1 => stepG c (stepsG c g n) ((n : Int) + 1)
/-- Before the first. -/
def firstG (c : GenC) : GenW :=
  { x := if c.seed = 0 then 1 else c.seed, free := List.replicate c.procs.toNat 0, gone := List.replicate c.procs.toNat false,
    states := (List.range c.objects.toNat).map (fun i => if i % 6 + 1 = 1 ∨ i % 6 + 1 = 2 then [0] else []), now := 0, l := [] }
/-- The history that a config makes. -/
def histG (c : GenC) : List OpR × Int := if c.good then ((stepsG c (firstG c) c.ops.toNat).l, 0) else ([], 1)
end Go.Proofs.Ytlhgdbangnohjaa
