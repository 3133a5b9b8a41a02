/- What slices.Clone makes of operations. -/
import Derived.Test.YtljimlaalebmaaaHPlain
import Derived.Test.YtljimlaalebmaaaMOpsRow
namespace Go.Proofs.Ytljimlaalebmaaa
open Go.RowKit
set_option linter.unusedVariables false
set_option linter.unusedSimpArgs false
set_option maxRecDepth 100000 in
set_option maxHeartbeats 2000000 in
theorem HClone_c (l : List OpR) (v : Value) (w : World) (hv : Ops w v l) (hn : l.length ≤ 1000000) : Calls Try.prog 17 #[v] w fun e w' => ∃ v', e = .returned v' ∧ w'.ownsRow w.heap.size 25 11 v' l.length (opCells l) ∧ Grow w w' := by
  have hq : ∀ (w : World) (a : Option Addr) (n c n' c' : Nat), (binOp .eql 23 (.slice a n c) (.slice none n' c')).run Try.prog w = .ok (.bool a.isNone) w := fun w a n c n' c' => Lib.run_eql_slice_nil w _ _ a n c n' c' Try.underlying23
  have HV := hid hv
  obtain ⟨p, cap, rfl, hl, hc⟩ := hv.read
  cases p with
  | none =>
    have h0 : l = [] := by
      cases l with
      | nil => rfl
      | cons a l =>
        obtain ⟨b, off, e, _⟩ := hc 0 (by simp)
        cases e
    subst h0
    clear hc hv HV
    go_enter Try.func17, Try.ntmps17
    go_wp2_with fail
    go_ret
    exact ⟨_, rfl, World.ownsRow_nil _ _ _ _, Grow.refl _⟩
  | some a =>
    clear hc hv
    go_enter Try.func17, Try.ntmps17
    go_wp2_with (at_builtin; refine wpList_append_ops rfl _ _ rfl w.heap.size _ 0 [] rfl (World.ownsRow_made w #[] 0 (Nat.le_refl _) (Nat.zero_le _) rfl) (some a) l.length cap l rfl (HV.out.grow (Grow.alloc _ _)) (by omega) (by simp) ?_)
    intro v' w1 hown hgrow
    go_wp2_with fail
    go_ret
    exact ⟨v', rfl, by simpa using hown, ((Below.refl _ w).alloc (Nat.le_refl _) _).grown hgrow (by simp) (by intro k hk; simp [Value.ownBlock] at hk; omega)⟩
end Go.Proofs.Ytljimlaalebmaaa
