/- Whether just that is kept: the law's comparing. -/
import Derived.Test.YtjccfodadiaokaaCAll
import Derived.Deep.QuietTactic
import Derived.BigQuiet
namespace Go.Proofs.Ytjccfodadiaokaa
open Go.RowKit
set_option linter.unusedVariables false
set_option linter.unusedSimpArgs false
/-- A list of the law's items, read. -/
def RItems (w : World) (v : Value) (L : List CItem) : Prop := ∃ A c, v = .slice A L.length c ∧ L.length ≤ 1000000 ∧ L.length ≤ c ∧ (0 < L.length → ∃ g, A = some ⟨g, 0, none⟩ ∧ ∀ i (hi : i < L.length), ItemAt w g (i * 3) L[i])
theorem ItemAt.grow {w w' : World} {g o : Nat} {x : CItem} (h : ItemAt w g o x) (hg : Grow w w') : ItemAt w' g o x := ⟨hg.cell h.1, hg.cell h.2.1, hg.cell h.2.2⟩
theorem RItems.grow {w w' : World} {v : Value} {L : List CItem} (h : RItems w v L) (hg : Grow w w') : RItems w' v L := by
  obtain ⟨A, c, e, h1, h2, h3⟩ := h
  refine ⟨A, c, e, h1, h2, fun h0 => ?_⟩
  obtain ⟨g, e2, h4⟩ := h3 h0
  exact ⟨g, e2, fun i hi => (h4 i hi).grow hg⟩
theorem RItems.nil (w : World) : RItems w (.slice none 0 0) [] := ⟨none, 0, rfl, by simp, by simp, fun h => by simp at h⟩
theorem RItems.of_own {w : World} {base : Nat} {e : TypeId} {v : Value} {L : List CItem} (h : w.ownsRow base e 3 v L.length (itemCells L)) (hl : L.length ≤ 1000000) : RItems w v L := by
  rcases h.2 with ⟨rfl, h0⟩ | ⟨g, cap, cur, rfl, hb, hg, hnc, _⟩
  · obtain rfl := List.eq_nil_of_length_eq_zero h0
    exact RItems.nil w
  · refine ⟨_, cap, rfl, hl, hnc, fun h0 => ⟨g, rfl, fun i hi => ?_⟩⟩
    have e0 := itemCells_at L i 0 hi (by omega)
    rw [Nat.add_zero] at e0
    exact ⟨(h.cellAt (i * 3) (by omega)).trans e0, (h.cellAt (i * 3 + 1) (by omega)).trans (itemCells_at L i 1 hi (by omega)), (h.cellAt (i * 3 + 2) (by omega)).trans (itemCells_at L i 2 hi (by omega))⟩
theorem RItems.take {w : World} {A : Option Addr} {n c : Nat} {L : List CItem} (h : RItems w (.slice A n c) L) (k : Nat) (hk : k ≤ L.length) : RItems w (.slice A k c) (L.take k) := by
  obtain ⟨A', c', e, h1, h2, h3⟩ := h
  cases e
  have hl : (L.take k).length = k := by rw [List.length_take]; omega
  refine ⟨A, c, by rw [hl], by omega, by omega, fun h0 => ?_⟩
  obtain ⟨g, e2, h4⟩ := h3 (by omega)
  refine ⟨g, e2, fun i hi => ?_⟩
  have := h4 i (by omega)
  simpa using this
set_option maxRecDepth 100000 in
set_option maxHeartbeats 4000000 in
theorem same_c (L : List CItem) (va vb : Value) (w : World) (ha : RItems w va L) (hb : RItems w vb L) : Calls Try.prog 20 #[va, vb] w fun e w' => e = .returned (.bool true) ∧ Grow w w' := by
  obtain ⟨pa, ca, rfl, hl, -, hca⟩ := ha
  obtain ⟨pb, cb, rfl, -, -, hcb⟩ := hb
  have HX := hid (show ∀ k, k < L.length → ∃ (ga gb : Nat) (key : Int) (val : ByteArray), pa = some ⟨ga, 0, none⟩ ∧ pb = some ⟨gb, 0, none⟩ ∧ w.cell? ⟨ga, k * 3, none⟩ = some (.int .i64 key) ∧ w.cell? ⟨ga, k * 3 + 1, none⟩ = some (.string val) ∧ w.cell? ⟨gb, k * 3, none⟩ = some (.int .i64 key) ∧ w.cell? ⟨gb, k * 3 + 1, none⟩ = some (.string val) from by
    intro k hk
    obtain ⟨ga, e1, A⟩ := hca (by omega)
    obtain ⟨gb, e2, B⟩ := hcb (by omega)
    exact ⟨ga, gb, _, _, e1, e2, (A k hk).1, (A k hk).2.1, (B k hk).1, (B k hk).2.1⟩)
  clear hca hcb
  generalize L.length = n at *
  go_enter Try.func20, Try.ntmps20
  go_wp2_with fail
  go_loopw [5] (fun i wr => ∃ k : Nat, k ≤ n ∧ i = .int .i64 (k : Int) ∧ Grow w wr) (fun i _ => n - (intOf i).toNat)
  case atStart => exact ⟨0, by omega, rfl, Grow.refl _⟩
  case round =>
    obtain ⟨k, hk, rfl, hg⟩ := hrel
    by_cases hlt : k < n
    · obtain ⟨ga, gb, key, val, rfl, rfl, a0, a1, b0, b1⟩ := HX.out k hlt
      replace a0 := hg.cell a0
      replace a1 := hg.cell a1
      replace b0 := hg.cell b0
      replace b1 := hg.cell b1
      have hk0 : (0 : Int) ≤ (k : Int) := by omega
      have hk1 : (k : Int) < (n : Int) := by omega
      have e1 : (key != key) = false := by simp
      go_wp2_with fail
      go_quiet (fail)
      go_wp2_with fail
      go_roundw
      case rel => exact ⟨k + 1, by omega, by go_num, Grow.drewNM hg _⟩
      case measure => (simp [intOf]; try omega)
    · go_wp2_with fail
      go_ret
      exact ⟨rfl, hg⟩
end Go.Proofs.Ytjccfodadiaokaa
