/- A region that draws its order, shown operation by operation, where some edges bind in the text's order alone. No Go text is spoken of. -/
import Derived.Test.YtcfkcdfjianeiaaRely
namespace Go.Proofs.Ytcfkcdfjianeiaa
open Go.RowKit
set_option linter.unusedVariables false
theorem depsDid_filter {rs : List Per} {ops : List Oper} {t : Array Value} {w : World} : ∀ (l : List Edge), depsHold (perAt rs) ops t w l → depsDid rs ops t w (l.filter fun e => Region.binds .any e)
  | [], _ => trivial
  | e :: rest, h => by
    have ih := depsDid_filter rest h.2
    by_cases hb : Region.binds .any e = true
    · rw [List.filter_cons_of_pos (by exact hb)]
      have h1 := h.1 hb
      refine ⟨?_, ih⟩
      cases ho : ops[e.on]? with
      | none => trivial
      | some o => rw [ho] at h1; exact did_iff.1 h1
    · rw [List.filter_cons_of_neg (by exact hb)]
      exact ih
def relyGoalsT (P : Program) (rs : List Per) (ops : List Oper) (a0 : Act) (w0 : World) : List Oper → Nat → Prop
  | [], _ => True
  | o :: rest, i => (∀ t w, t.size = a0.tmps.size → Grow w0 w → depsDid rs ops t w (o.after.toList.filter fun e => Region.binds .any e) → (∀ s, safeAt ops i s = true → t.getD s undef = a0.tmps.getD s undef) →
      if Region.wanted o (yielded ops.toArray t) then relyUpon P Grow w (perAt rs i) ((execOp (Act.eval ⟨t, a0.defers⟩) o).run P w) else perAt rs i undef w) ∧ relyGoalsT P rs ops a0 w0 rest (i + 1)
theorem relyAll_ofT {P : Program} {rs : List Per} {ops : List Oper} {a0 : Act} {w0 : World} : ∀ (l : List Oper) (i : Nat), relyGoalsT P rs ops a0 w0 l i → relyAll P Grow (perAt rs) ops a0 w0 l i
  | [], _, _ => trivial
  | o :: rest, i, h => ⟨fun t w h1 h2 h3 h4 => h.1 t w h1 h2 (depsDid_filter _ h3) h4, relyAll_ofT rest (i + 1) h.2⟩
theorem wp_relyT {P : Program} {id : Nat} {Q : Exit → Act → World → Prop} {l : List Oper} {a0 : Act} {w0 : World} (rs : List Per) (hm : P.follows .mixedOrders = true)
    (hf : relyForm l a0.tmps.size = true)
    (hall : relyGoalsT P rs l a0 w0 l 0) (hQ : ∀ w, Grow w0 w → relyEnd (Q .normal) w l rs a0) : (Code.region id l.toArray true).wp P Q a0 w0 := by
  refine wp_region_rely Grow (perAt rs) hm Grow.refl (fun _ _ _ => Grow.trans) (fun i v w w' => (rs.getD i Per.any).st v w w') (Grow.drew _) hf (relyAll_ofT _ _ hall) ?_
  intro t w hs hg hd hfr
  refine relyEnd_use l 0 a0 rfl hs.symm (fun i o hi => ?_) hfr (by rw [List.drop_zero]; exact hQ w hg)
  rw [Nat.zero_add]
  exact did_iff.1 (hd i o hi)
end Go.Proofs.Ytcfkcdfjianeiaa
