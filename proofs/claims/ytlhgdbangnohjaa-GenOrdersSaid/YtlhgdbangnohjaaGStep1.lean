/- One step of gen: nobody asks, or a mutex' holder is gone. -/
import Derived.Test.YtlhgdbangnohjaaGTurnL
namespace Go.Proofs.Ytlhgdbangnohjaa
open Go.RowKit
set_option linter.unusedVariables false
set_option linter.unusedSimpArgs false
theorem ret_none {e : Ending} (h : e = .returned (.tuple #[])) : e = .returned (.tuple #[]) := h
set_option maxRecDepth 100000 in
set_option maxHeartbeats 4000000 in
/-- Nobody asks. -/
theorem stepNone_c {base : Nat} {w : World} {c : GenC} {R : GR} {G : GenW} (h : GAt base w c R G) (h1 : 1 ≤ c.procs) (h16 : c.procs ≤ 16) (id : Int)
    (hch : chooseL G.gone c.procs.toNat (belowV G.x c.procs).toNat c.procs.toNat 0 = none) :
    Calls Try.prog 28 #[.pointer (some ⟨R.g, 0, none⟩), .int .i64 id] w fun e w' => (∃ v, e = .returned v) ∧ GAt base w' c R (stepG c G id) ∧ Below base w w' := by
  have HC := hid (choose_c h h1 h16)
  rw [hch] at HC
  unfold pickV at HC
  dsimp only at HC
  rw [stepG_none hch]
  go_enter Try.func28, Try.ntmps28
  go_wp2_with fail
  refine (HC.out).mono ?_
  rintro e w1 ⟨rfl, b1, s1⟩
  have h2 := h.next b1 s1 (nxt_u _)
  have hb := b1.below h.lo.2.1
  have HH := hid h2
  have HB := hid hb
  clear h2 hb s1 b1 HC
  go_wp2_with fail
  first | go_end0 | ((try simp only [Exit.inBlock, Exit.then]); refine bodyPost_ret (results_none rfl _ _ _) rfl ?_)
  exact ⟨⟨_, rfl⟩, HH.out, HB.out⟩
end Go.Proofs.Ytlhgdbangnohjaa
