/- What slices.Clone and model.list compute. -/
import Derived.Test.YtookcollmijjkaaMInts
import Derived.Deep.DeepAppendWide
import Derived.Test.YtookcollmijjkaaMState
import Derived.Test.YtookcollmijjkaaOpLift
import Derived.Test.YtookcollmijjkaaMDoPlain
namespace Go.Proofs.Ytookcollmijjkaa
open Go.RowKit
set_option linter.unusedVariables false
set_option linter.unusedSimpArgs false
/-- The state behind, the answer, and whether it can be done; what was ahead of the call's own blocks is as it was. -/
def DoPost (base : Nat) (r : List Int × Int × Bool) (w : World) (e : Ending) (w' : World) : Prop := ∃ v, e = .returned (.tuple #[v, .int .i64 r.2.1, .bool r.2.2]) ∧ Ints w' v r.1 ∧ Below base w w'
set_option maxRecDepth 100000 in
set_option maxHeartbeats 2000000 in
theorem Clone_c (xs : List Int) (v : Value) (w : World) (hv : Ints w v xs) : Calls Try.prog 23 #[v] w fun e w' => ∃ v', e = .returned v' ∧ w'.ownsRow w.heap.size 3 1 v' xs.length (i64s xs) ∧ Grow w w' := by
  have hl := hv.length
  have hq : ∀ (w : World) (a : Option Addr) (n c n' c' : Nat), (binOp .eql 22 (.slice a n c) (.slice none n' c')).run Try.prog w = .ok (.bool a.isNone) w := fun w a n c n' c' => Lib.run_eql_slice_nil w _ _ a n c n' c' Try.underlying22
  obtain ⟨p, cap, rfl, hc⟩ := hv.at
  obtain ⟨i0, hi, hz0, hz1, hz2⟩ := info_parts infoIntM
  cases p with
  | none =>
    have h0 : xs = [] := by
      cases xs with
      | nil => rfl
      | cons a l =>
        obtain ⟨b, off, e, _⟩ := hc 0 (by simp)
        cases e
    subst h0
    clear hc hv
    go_enter Try.func23, Try.ntmps23
    go_wp2_with fail
    go_ret
    exact ⟨_, rfl, World.ownsRow_nil _ _ _ _, Grow.refl _⟩
  | some a =>
    have HC := hid hc
    clear hc hv
    go_enter Try.func23, Try.ntmps23
    go_wp2_with (at_builtin; refine wpList_append_own_wide _ rfl _ _ 22 rfl w.heap.size 3 i0 (.int .i64 0) 1 8 Try.underlying22 hi hz0 hz1 hz2 rfl (by decide) _ _ _ rfl (World.ownsRow_made w #[] 0 (Nat.le_refl _) (Nat.zero_le _) rfl) a xs.length cap (i64s xs) rfl ?qc1 ?qc2 ?qc3 ?qc4 ?qc5 ?qc6 ?_)
    case qc1 => rw [i64s_length]; omega
    case qc2 =>
      intro j u hj
      have hjn : j < xs.length := by
        have := (List.getElem?_eq_some_iff.1 hj).1
        rwa [i64s_length] at this
      obtain ⟨b, off, e, hcell⟩ := HC.out j hjn
      obtain rfl : a = ⟨b, off, none⟩ := by simpa using e
      rw [Addr.add_lit]
      refine Lib.cell?_alloc_some _ ?_
      rw [hcell]
      unfold i64s at hj
      rw [List.getElem?_map, List.getElem?_eq_getElem hjn] at hj
      simpa [List.getD, List.getElem?_eq_getElem hjn] using hj
    case qc3 => intro u hu; obtain ⟨x, _, rfl⟩ := List.mem_map.1 hu; rfl
    case qc4 => unfold maxLen; omega
    case qc5 => omega
    case qc6 => simp
    intro v' w1 hown hgrow hnil
    go_wp2_with fail
    go_ret
    exact ⟨v', rfl, by simpa using hown, ((Below.refl _ w).alloc (Nat.le_refl _) _).grown hgrow (by simp) (by intro k hk; simp [Value.ownBlock] at hk; omega)⟩
end Go.Proofs.Ytookcollmijjkaa
