/- What hist.add tells, by one contract. -/
import Derived.Test.YtljimlaalebmaaaHAddE
namespace Go.Proofs.Ytljimlaalebmaaa
open Go.RowKit
set_option linter.unusedVariables false
set_option linter.unusedSimpArgs false
/-- A value that an operation is. -/
def opV (o : OpR) : Value := .agg #[.int .i64 o.id, .int .i64 o.proc, .int .i64 o.obj, .int .i64 o.kind, .int .i64 o.meth, .int .i64 o.arg, .int .i64 o.sec, .bool o.done, .int .i64 o.res, .int .i64 o.inv, .int .i64 o.ret]
/-- What a function tells of an edited history. -/
def EdPost (r : Edited) (w : World) (e : Ending) (w' : World) : Prop :=
  ∃ v', e = .returned (.tuple #[v', opV r.2.1, opV r.2.2.1, .int .i64 r.2.2.2]) ∧ w'.ownsRow w.heap.size 25 11 v' r.1.length (opCells r.1) ∧ Grow w w'
theorem edPost_bad {c : Int} {w : World} {e : Ending} {w' : World} (h : e = .returned (.tuple #[.slice none 0 0, opV opZ, opV opZ, .int .i64 c]) ∧ Grow w w') : EdPost ([], opZ, opZ, c) w e w' :=
  ⟨_, h.1, World.ownsRow_nil _ _ _ _, h.2⟩
theorem add_c (o : OpR) (i : Nat) (there : Bool) (l : List OpR) (v : Value) (w : World) (hv : Ops w v l) (hf : I64 o.res) (hi : i ≤ l.length) (hl : l.length ≤ 1000000) :
    Calls Try.prog 15 #[v, .agg #[.int .i64 o.id, .int .i64 o.proc, .int .i64 o.obj, .int .i64 o.kind, .int .i64 o.meth, .int .i64 o.arg, .int .i64 o.sec, .bool o.done, .int .i64 o.res, .int .i64 o.inv, .int .i64 o.ret], .int .i64 (i : Int), .bool there] w (EdPost (addL l o i there) w) := by
  have hck := fun w => Check_c o w hf.1 hf.2
  have hbk := fun (w' : World) (g : Grow w w') => beside_c l o v w' (hv.grow g)
  unfold addL
  by_cases h1 : checkE o = 0
  · rw [h1] at hck
    cases there
    · by_cases h2 : besideE l o = 0
      · rw [h2] at hbk
        obtain ⟨p, cap, rfl, -⟩ := hv.read
        by_cases h3 : 64 ≤ l.length
        · have e : addE l o false = 34 := by simp [addE, h1, h2, h3]
          rw [e, if_pos (by decide)]
          exact (addD_c o i p l.length cap w hck hbk (by omega)).mono fun e w' h => edPost_bad h
        · have e : addE l o false = 0 := by simp [addE, h1, h2, h3]
          rw [e, if_neg (by decide)]
          refine (addE_c o i l p l.length cap w hck hbk (by omega) hv hi hl).mono fun e w' h => ?_
          obtain ⟨v', h1, h2, h3⟩ := h
          exact ⟨v', h1, h2, h3⟩
      · have e : addE l o false = besideE l o := by simp [addE, h1, h2]
        rw [e, if_pos h2]
        exact (addC_c o i v _ w hck hbk h2).mono fun e w' h => edPost_bad h
    · have e : addE l o true = 7 := by simp [addE, h1]
      rw [e, if_pos (by decide)]
      exact (addB_c o i v w hck).mono fun e w' h => edPost_bad h
  · have e : addE l o there = checkE o := by simp [addE, h1]
    rw [e, if_pos h1]
    exact (addA_c o i there v _ w hck h1).mono fun e w' h => edPost_bad h
end Go.Proofs.Ytljimlaalebmaaa
