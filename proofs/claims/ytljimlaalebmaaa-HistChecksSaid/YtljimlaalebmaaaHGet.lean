/- What hist.Get tells. -/
import Derived.Test.YtljimlaalebmaaaHPlace
import Derived.Test.YtljimlaalebmaaaHRow
namespace Go.Proofs.Ytljimlaalebmaaa
open Go.RowKit
set_option linter.unusedVariables false
set_option linter.unusedSimpArgs false
set_option maxRecDepth 100000 in
set_option maxHeartbeats 2000000 in
theorem Get_c (l : List OpR) (x : Int) (y : OpR) (v : Value) (w : World) (hv : Ops w v l) (hs : Rises l) (hy : y = getO l x) :
    Calls Try.prog 12 #[v, .int .i64 x] w fun e w' => e = .returned (.tuple #[.agg #[.int .i64 y.id, .int .i64 y.proc, .int .i64 y.obj, .int .i64 y.kind, .int .i64 y.meth, .int .i64 y.arg, .int .i64 y.sec, .bool y.done, .int .i64 y.res, .int .i64 y.inv, .int .i64 y.ret], .bool (thereB l x)]) ∧ Grow w w' := by
  have h1 := hid (fun w hv => place_c l x v w hv hs)
  have HV := hid hv
  have HT := hid (fun h => placeL_there (l := l) (x := x) h hs)
  have HG := hid (show thereB l x = true → y = opAt l (placeL l x) from fun h => hy.trans (if_pos h))
  have HZ := hid (show thereB l x = false → y = opZ from fun h => hy.trans (if_neg (by rw [h]; decide)))
  clear hy
  obtain ⟨p, cap, rfl, hl, hc⟩ := hv.read
  have HC := hid hc
  clear hc hs hv
  generalize hb : thereB l x = b at *
  clear hb
  have HP := hid (show ∀ k, k = placeL l x → k < l.length → ∃ b off, p = some ⟨b, off, none⟩ ∧ OpAt w b (off + k * 11) (opAt l (placeL l x)) from fun k hk h => by subst hk; exact HC.out _ h)
  clear HC
  have HG2 := hid (show ∀ k, k = placeL l x → ∀ q, q = opAt l (placeL l x) → opAt l k = q from fun k h q hq => by rw [h, hq])
  generalize hz : placeL l x = z at *
  clear hz
  generalize hN : l.length = n at *
  clear hN
  cases b
  · obtain rfl := HZ.out rfl
    clear HG HZ HT HP
    go_enter Try.func12, Try.ntmps12
    go_wp2_with fail
    refine (h1.out _ ?_).mono ?_
    · exact HV.out.grow (Grow.alloc _ _)
    rintro e w1 ⟨hz, rfl, b1⟩
    have k1 := b1.cells
    have z1 : w.heap.size < w1.heap.size := (by have := b1.size; simp at this; omega)
    have hbx : OpBox w1 w.heap.size opZ := OpBox.grow (heap_new w (.cells #[.int .i64 0, .int .i64 0, .int .i64 0, .int .i64 0, .int .i64 0, .int .i64 0, .int .i64 0, .bool false, .int .i64 0, .int .i64 0, .int .i64 0] 25)) b1
    have HBX := hid hbx
    have hba := hbx.at
    obtain ⟨f0, f1, f2, f3, f4, f5, f6, f7, f8, f9, f10⟩ := hbx.open
    unfold OpAt opZ at hba
    dsimp only at hba
    simp only [Nat.zero_add] at hba
    obtain ⟨e0, e1, e2, e3, e4, e5, e6, e7, e8, e9, e10⟩ := hba
    clear hbx
    go_wp2_with fail
    (try simp only [Exit.inBlock, Exit.then])
    refine bodyPost_ret (v := .tuple #[.agg #[.int .i64 0, .int .i64 0, .int .i64 0, .int .i64 0, .int .i64 0, .int .i64 0, .int .i64 0, .bool false, .int .i64 0, .int .i64 0, .int .i64 0], .bool false]) ?_ rfl ⟨rfl, ?_⟩
    · refine results_row2 (fn := Try.f12) (p := 4) (u := 5) rfl _ _ w.heap.size 25 _ (0, 0) _ rfl (HBX.out.store opZ) Try.underlying25 rfl ?_
      kernel_rfl
    · exact Grow.store (Grow.trans (Grow.alloc _ _) b1) _ (Nat.le_refl _) opZ
  · obtain ⟨ht, -⟩ := HT.out rfl
    obtain ⟨b, off, rfl, ha⟩ := HP.out z rfl ht
    have hy := HG.out rfl
    rw [← hy] at ha
    clear hy HG HZ HT HP HG2
    obtain ⟨id, proc, obj, kind, meth, arg, sec, done, res, inv, ret⟩ := y
    unfold OpAt at ha
    dsimp only at ha ⊢
    obtain ⟨c0, c1, c2, c3, c4, c5, c6, c7, c8, c9, c10⟩ := ha
    have hz1 : (z : Int) < (n : Int) := by omega
    have hz0 : (0 : Int) ≤ (z : Int) := by omega
    go_enter Try.func12, Try.ntmps12
    go_wp2_with fail
    refine (h1.out _ ?_).mono ?_
    · exact HV.out.grow (Grow.alloc _ _)
    rintro e w1 ⟨hz, rfl, b1⟩
    have k1 := b1.cells
    have z1 : w.heap.size < w1.heap.size := (by have := b1.size; simp at this; omega)
    have hbx : OpBox w1 w.heap.size opZ := OpBox.grow (heap_new w (.cells #[.int .i64 0, .int .i64 0, .int .i64 0, .int .i64 0, .int .i64 0, .int .i64 0, .int .i64 0, .bool false, .int .i64 0, .int .i64 0, .int .i64 0] 25)) b1
    have HBX := hid hbx
    have hba := hbx.at
    obtain ⟨f0, f1, f2, f3, f4, f5, f6, f7, f8, f9, f10⟩ := hbx.open
    unfold OpAt opZ at hba
    dsimp only at hba
    simp only [Nat.zero_add] at hba
    obtain ⟨e0, e1, e2, e3, e4, e5, e6, e7, e8, e9, e10⟩ := hba
    clear hbx
    have hg := Grow.trans (Grow.alloc _ _) b1
    replace c0 := hg.cell c0
    replace c1 := hg.cell c1
    replace c2 := hg.cell c2
    replace c3 := hg.cell c3
    replace c4 := hg.cell c4
    replace c5 := hg.cell c5
    replace c6 := hg.cell c6
    replace c7 := hg.cell c7
    replace c8 := hg.cell c8
    replace c9 := hg.cell c9
    replace c10 := hg.cell c10
    clear hz
    go_wp2_with fail
    (try simp only [Exit.inBlock, Exit.then])
    refine bodyPost_ret (v := .tuple #[.agg #[.int .i64 id, .int .i64 proc, .int .i64 obj, .int .i64 kind, .int .i64 meth, .int .i64 arg, .int .i64 sec, .bool done, .int .i64 res, .int .i64 inv, .int .i64 ret], .bool true]) ?_ rfl ⟨rfl, ?_⟩
    · refine results_row2 (fn := Try.f12) (p := 4) (u := 5) rfl _ _ w.heap.size 25 _ (0, 0) _ rfl (HBX.out.store ⟨id, proc, obj, kind, meth, arg, sec, done, res, inv, ret⟩) Try.underlying25 rfl ?_
      kernel_rfl
    · exact Grow.store (Grow.trans (Grow.alloc _ _) b1) _ (Nat.le_refl _) ⟨id, proc, obj, kind, meth, arg, sec, done, res, inv, ret⟩
end Go.Proofs.Ytljimlaalebmaaa
