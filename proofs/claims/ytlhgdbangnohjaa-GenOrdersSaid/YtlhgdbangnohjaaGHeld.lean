/- Who has a mutex, and who still asks: gen's held and choose. -/
import Derived.Test.YtlhgdbangnohjaaGSmall
import Derived.IntWalk
namespace Go.Proofs.Ytlhgdbangnohjaa
open Go.RowKit
set_option linter.unusedVariables false
set_option linter.unusedSimpArgs false
/-- The cells of the whole, one by one. -/
theorem GAt.wc {base : Nat} {w : World} {c : GenC} {R : GR} {G : GenW} (h : GAt base w c R G) :
    w.cell? ⟨R.g, 0, none⟩ = some (.int .u64 c.seed) ∧ w.cell? ⟨R.g, 1, none⟩ = some (.int .i64 c.procs) ∧ w.cell? ⟨R.g, 2, none⟩ = some (.int .i64 c.objects) ∧ w.cell? ⟨R.g, 3, none⟩ = some (.int .i64 c.ops) ∧
    w.cell? ⟨R.g, 4, none⟩ = some (.int .i64 c.wrong) ∧ w.cell? ⟨R.g, 5, none⟩ = some (.int .i64 c.pending) ∧ w.cell? ⟨R.g, 6, none⟩ = some (.pointer (some ⟨R.gs, 0, none⟩)) ∧
    w.cell? ⟨R.g, 7, none⟩ = some (.slice (some ⟨R.gf, 0, none⟩) c.procs.toNat c.procs.toNat) ∧ w.cell? ⟨R.g, 8, none⟩ = some (.slice (some ⟨R.gg, 0, none⟩) c.procs.toNat c.procs.toNat) ∧
    w.cell? ⟨R.g, 9, none⟩ = some (.slice (some ⟨R.gst, 0, none⟩) c.objects.toNat R.cst) ∧ w.cell? ⟨R.g, 10, none⟩ = some (.int .i64 G.now) ∧ w.cell? ⟨R.g, 11, none⟩ = some R.lv := by
  have hc := h.cells
  refine ⟨?_, ?_, ?_, ?_, ?_, ?_, ?_, ?_, ?_, ?_, ?_, ?_⟩
  all_goals rw [heap_cell hc]; rfl
/-- An object's state, as it lies. -/
theorem GAt.row {base : Nat} {w : World} {c : GenC} {R : GR} {G : GenW} (h : GAt base w c R G) (o : Nat) (ho : o < c.objects.toNat) :
    ∃ p m, R.svs.getD o (.slice none 0 0) = .slice p (G.states.getD o []).length m ∧ w.cell? ⟨R.gst, o, none⟩ = some (.slice p (G.states.getD o []).length m) ∧
      (0 < (G.states.getD o []).length → ∃ b off, p = some ⟨b, off, none⟩ ∧ w.cell? ⟨b, off, none⟩ = some (.int .i64 ((G.states.getD o []).getD 0 0))) := by
  obtain ⟨p, m, e, hl, hc, -⟩ := h.rows o ho
  have hn : R.svs.length = c.objects.toNat := by have := h.st.1; omega
  refine ⟨p, m, e, ?_, fun h0 => ?_⟩
  · rw [h.st.cellAt o (by omega), ← e, List.getD_eq_getElem?_getD, List.getElem?_eq_getElem (by omega)]
    rfl
  · obtain ⟨b, off, e2, H⟩ := hc h0
    refine ⟨b, off, e2, ?_⟩
    have := H 0 h0
    simpa using this
/-- Who has a mutex. -/
def heldV (G : GenW) (o : Nat) : Int × Bool := if (o : Int) % 6 + 1 = 6 ∧ 0 < (G.states.getD o []).length then ((G.states.getD o []).getD 0 0, true) else (0, false)
set_option maxRecDepth 100000 in
set_option maxHeartbeats 2000000 in
theorem held_c {base : Nat} {w : World} {c : GenC} {R : GR} {G : GenW} (h : GAt base w c R G) (o : Nat) (ho : o < c.objects.toNat) (h16 : c.objects ≤ 16) :
    Calls Try.prog 50 #[.pointer (some ⟨R.g, 0, none⟩), .int .i64 (o : Int)] w fun e w' => e = .returned (.tuple #[.int .i64 (heldV G o).1, .bool (heldV G o).2]) ∧ w = w' := by
  obtain ⟨-, -, -, -, -, -, -, -, -, c9, -, -⟩ := h.wc
  obtain ⟨p, m, -, cs, hp⟩ := h.row o ho
  have HK := hid (fun w => kind_c (o : Int) (by omega) (by omega) w)
  have h0 : (0 : Int) ≤ (o : Int) := by omega
  have h1 : (o : Int) < (c.objects.toNat : Int) := by omega
  unfold heldV
  generalize R.g = g at *
  generalize R.gst = gst at *
  generalize c.objects.toNat = N at *
  generalize hx : (G.states.getD o []).length = n at *
  generalize (G.states.getD o []).getD 0 0 = x at *
  clear hx h
  by_cases hk : (o : Int) % 6 + 1 = 6
  · rw [hk] at HK
    by_cases hn : 0 < n
    · obtain ⟨b, off, rfl, cb⟩ := hp hn
      rw [if_pos ⟨hk, hn⟩]
      have hne : ((n : Int) == 0) = false := by simp; omega
      have hn0 : (0 : Int) < (n : Int) := by omega
      have hn1 : ¬ (n : Int) = 0 := by omega
      clear hp hk ho
      go_enter Try.func50, Try.ntmps50
      go_wp2_with fail
      refine (HK.out _).mono ?_
      rintro e w1 ⟨rfl, rfl⟩
      go_wp2_with fail
      go_ret2
      exact ⟨rfl, rfl⟩
    · obtain rfl : n = 0 := by omega
      rw [if_neg (fun h => hn h.2)]
      clear hp hk ho hn
      go_enter Try.func50, Try.ntmps50
      go_wp2_with fail
      refine (HK.out _).mono ?_
      rintro e w1 ⟨rfl, rfl⟩
      go_wp2_with fail
      go_ret2
      exact ⟨rfl, rfl⟩
  · rw [if_neg (fun h => hk h.1)]
    generalize (o : Int) % 6 + 1 = k at *
    have hne : (k != 6) = true := by simpa using hk
    clear hp hk ho
    go_enter Try.func50, Try.ntmps50
    go_wp2_with fail
    refine (HK.out _).mono ?_
    rintro e w1 ⟨rfl, rfl⟩
    go_wp2_with fail
    go_ret2
    exact ⟨rfl, rfl⟩
end Go.Proofs.Ytlhgdbangnohjaa
