/- The reference's Ops, at two equal lists. -/
import Derived.Test.YtljimlaalebmaaaHPlain
import Derived.Test.YtljimlaalebmaaaOpEq
import Derived.Deep.QuietTactic
import Derived.BigQuiet
namespace Go.Proofs.Ytljimlaalebmaaa
open Go.RowKit
set_option linter.unusedVariables false
set_option linter.unusedSimpArgs false
theorem Grow.drewNO {a b : World} (h : Grow a b) (n : Nat) : Grow a (b.drewN n) := ⟨h.os, h.tape, h.output, h.size, h.block⟩
set_option maxRecDepth 100000 in
set_option maxHeartbeats 4000000 in
theorem ROps_c (l : List OpR) (va vb : Value) (w : World) (ha : Ops w va l) (hb : Ops w vb l) : Calls Try.prog 10 #[va, vb] w fun e w' => e = .returned (.bool true) ∧ Grow w w' := by
  obtain ⟨pa, ca, rfl, hn, hca⟩ := ha.read
  obtain ⟨pb, cb, rfl, -, hcb⟩ := hb.read
  have HX := hid (show ∀ k, k < l.length → ∃ (ba oa bb ob : Nat) (o : OpR), pa = some ⟨ba, oa, none⟩ ∧ pb = some ⟨bb, ob, none⟩ ∧ OpAt w ba (oa + k * 11) o ∧ OpAt w bb (ob + k * 11) o from by
    intro k hk
    obtain ⟨ba, oa, e1, A⟩ := hca k hk
    obtain ⟨bb, ob, e2, B⟩ := hcb k hk
    exact ⟨ba, oa, bb, ob, _, e1, e2, A, B⟩)
  clear hca hcb ha hb
  generalize l.length = n at *
  go_enter Try.func10, Try.ntmps10
  go_wp2_with fail
  go_loopw [5] (fun i wr => ∃ k : Nat, k ≤ n ∧ i = .int .i64 k ∧ Grow w wr) (fun i _ => n - (intOf i).toNat)
  case atStart => exact ⟨0, by omega, rfl, Grow.refl _⟩
  case round =>
    obtain ⟨k, hk, rfl, hg⟩ := hrel
    by_cases hlt : k < n
    · obtain ⟨ba, oa, bb, ob, o, rfl, rfl, ha, hb⟩ := HX.out k hlt
      obtain ⟨id, proc, obj, kind, meth, arg, sec, done, res, inv, ret⟩ := o
      unfold OpAt at ha hb
      dsimp only at ha hb
      obtain ⟨a0, a1, a2, a3, a4, a5, a6, a7, a8, a9, a10⟩ := ha
      obtain ⟨b0, b1, b2, b3, b4, b5, b6, b7, b8, b9, b10⟩ := hb
      replace a0 := hg.cell a0
      replace a1 := hg.cell a1
      replace a2 := hg.cell a2
      replace a3 := hg.cell a3
      replace a4 := hg.cell a4
      replace a5 := hg.cell a5
      replace a6 := hg.cell a6
      replace a7 := hg.cell a7
      replace a8 := hg.cell a8
      replace a9 := hg.cell a9
      replace a10 := hg.cell a10
      replace b0 := hg.cell b0
      replace b1 := hg.cell b1
      replace b2 := hg.cell b2
      replace b3 := hg.cell b3
      replace b4 := hg.cell b4
      replace b5 := hg.cell b5
      replace b6 := hg.cell b6
      replace b7 := hg.cell b7
      replace b8 := hg.cell b8
      replace b9 := hg.cell b9
      replace b10 := hg.cell b10
      have hk0 : (0 : Int) ≤ (k : Int) := by omega
      have hk1 : (k : Int) < (n : Int) := by omega
      have hgd := op_guard
      have hne := op_neq id proc obj kind meth arg sec done res inv ret
      go_wp2_with fail
      go_quiet (fail)
      go_wp2_with fail
      go_roundw
      case rel => exact ⟨k + 1, by omega, by go_num, Grow.drewNO hg _⟩
      case measure => simp [intOf]; omega
    · obtain rfl : k = n := by omega
      go_wp2_with fail
      go_ret
      exact ⟨rfl, hg⟩
end Go.Proofs.Ytljimlaalebmaaa
