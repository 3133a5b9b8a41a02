/- The index: its tree and its map together. -/
import Derived.Test.YthmbnffddpnehaaIRem
import Derived.Test.YthmbnffddpnehaaIPure
import Derived.Test.YthmbnffddpnehaaIMap
namespace Go.Proofs.Ythmbnffddpnehaa
open Go.RowKit
set_option linter.unusedVariables false
set_option linter.unusedSimpArgs false
/-- How high the tree is that a pointer leads to. -/
def highOf (w : World) (v : Value) : Nat := match v with
  | .pointer (some a) => match w.cell? ⟨a.block, 5, none⟩ with
    | some (.int _ h) => h.toNat
    | _ => 0
  | _ => 0
theorem highOf_in {w : World} {T : Tr} (h : T.In w) : highOf w T.ptr = T.high.toNat := by
  cases T with
  | nil => rfl
  | node b x l r => simp only [highOf, Tr.ptr, h.1.cells.2.2.2.2.2.2.1]
set_option maxRecDepth 100000 in
set_option maxHeartbeats 2000000 in
theorem find_c (f id : Int) (T : Tr) (w : World) (hT : T.In w) :
    Calls Try.prog 37 #[T.ptr, .int .i64 f, .int .i64 id] w fun e w' => e = .returned (T.find f id).ptr ∧ w' = w := by
  have HT := hid hT
  obtain ⟨u, hu⟩ := T.ptr_form
  have HU := hid hu
  rw [hu]
  clear hT hu
  go_enter Try.func37, Try.ntmps37
  go_wp2_with fail
  go_loopw [0] (fun v wr => wr = w ∧ ∃ S : Tr, v = S.ptr ∧ S.In w ∧ S.find f id = T.find f id) (fun v wr => highOf wr v)
  case atStart => exact ⟨rfl, T, HU.out.symm, HT.out, rfl⟩
  case round =>
    obtain ⟨rfl, S, rfl, hS, hf⟩ := hrel
    cases S with
    | nil =>
      have HF := hid hf
      clear hf
      simp only [Tr.ptr]
      go_wp2_with fail
      go_ret
      exact ⟨by rw [← HF.out]; rfl, rfl⟩
    | node b x l r =>
      obtain ⟨hb, c0, -, -, c3, -, -, c6, c7⟩ := hS.1.cells
      have HM := hid (show highOf wr l.ptr < highOf wr (.pointer (some ⟨b, 0, none⟩)) ∧ highOf wr r.ptr < highOf wr (.pointer (some ⟨b, 0, none⟩)) by
        rw [show Value.pointer (some ⟨b, 0, none⟩) = (Tr.node b x l r).ptr from rfl, highOf_in hS, highOf_in hS.2.1, highOf_in hS.2.2]
        have h1 := l.high_le
        have h2 := r.high_le
        have h3 := Tr.high_node b x l r
        omega)
      by_cases hx : x.id = id
      · have HF := hid (show Value.pointer (some ⟨b, 0, none⟩) = (T.find f id).ptr by rw [← hf]; simp only [Tr.find]; rw [if_pos hx]; rfl)
        clear hf hS HM
        obtain ⟨xi, xf, xt, xv⟩ := x
        dsimp only at *
        subst hx
        simp only [Tr.ptr]
        go_wp2_with fail
        go_ret
        exact ⟨by rw [← HF.out]; rfl, rfl⟩
      · have HB := hid (before_c b x _ _ l.ptr r.ptr f id wr hS.1)
        obtain ⟨ul, hul⟩ := l.ptr_form
        obtain ⟨ur, hur⟩ := r.ptr_form
        have HU2 := hid (And.intro hul hur)
        rw [hul] at c6
        rw [hur] at c7
        cases hbf : Tr.bef f id x with
        | true =>
          rw [hbf] at HB
          have HF := hid (show l.In wr ∧ l.find f id = T.find f id from ⟨hS.2.1, by rw [← hf]; simp only [Tr.find]; rw [if_neg hx, if_pos hbf]⟩)
          clear hf hS hbf hul hur
          obtain ⟨xi, xf, xt, xv⟩ := x
          dsimp only at *
          simp only [Tr.ptr]
          go_wp2_with fail
          refine HB.out.mono ?_
          rintro e w2 ⟨rfl, rfl⟩
          go_wp2_with fail
          go_roundw
          case rel => exact ⟨trivial, l, HU2.out.1.symm, HF.out.1, HF.out.2⟩
          case measure => have := HM.out.1; rw [HU2.out.1] at this; exact this
        | false =>
          rw [hbf] at HB
          have HF := hid (show r.In wr ∧ r.find f id = T.find f id from ⟨hS.2.2, by rw [← hf]; simp only [Tr.find]; rw [if_neg hx, if_neg (by simp [hbf])]⟩)
          clear hf hS hbf hul hur
          obtain ⟨xi, xf, xt, xv⟩ := x
          dsimp only at *
          simp only [Tr.ptr]
          go_wp2_with fail
          refine HB.out.mono ?_
          rintro e w2 ⟨rfl, rfl⟩
          go_wp2_with fail
          go_roundw
          case rel => exact ⟨trivial, r, HU2.out.2.symm, HF.out.1, HF.out.2⟩
          case measure => have := HM.out.2; rw [HU2.out.2] at this; exact this
end Go.Proofs.Ythmbnffddpnehaa
