/- The same intervals, the same spans: the law's comparing of equal lists. -/
import Derived.Test.YthmbnffddpnehaaIRef
import Derived.Test.YthmbnffddpnehaaIGap1
import Derived.Laws.StructEq
import Derived.Deep.QuietTactic
import Derived.BigQuiet
namespace Go.Proofs.Ythmbnffddpnehaa
open Go.RowKit
set_option linter.unusedVariables false
set_option linter.unusedSimpArgs false
theorem Grow.drewNI {a b : World} (h : Grow a b) (n : Nat) : Grow a (b.drewN n) := ⟨h.os, h.tape, h.output, h.size, h.block⟩
theorem item_guard (b : BinOp) (x y : Operand) (xs ys : Array Value) (w : World) : (eqGuard b 50 x y (.agg xs) (.agg ys)).run Try.prog w = .ok () w :=
  run_eqGuard_agg w b 50 x y xs ys (by kernel_rfl)
theorem item_same (id f t : Int) (s : ByteArray) (w : World) : (Op.equalIn 10000 50 (.agg #[.int .i64 id, .int .i64 f, .int .i64 t, .string s]) (.agg #[.int .i64 id, .int .i64 f, .int .i64 t, .string s])).run Try.prog w = .ok true w := by
  have u3 := Try.underlying3
  have u4 := Try.underlying9
  have hS : Try.prog.underlying 50 = some (.struct (Try.prog.fieldsOf 50)) := by kernel_rfl
  have hp : Try.prog.stoodInHeld 50 = false := by kernel_rfl
  rw [show (10000 : Nat) = 9999 + 1 from rfl, run_equalIn_agg w 9999 50 _ _ hS hp]
  simp only [Program.fieldsOf, Try.underlying50]
  go_simp
theorem item_neq (id f t : Int) (s : ByteArray) (w : World) : (binOp .neq 50 (.agg #[.int .i64 id, .int .i64 f, .int .i64 t, .string s]) (.agg #[.int .i64 id, .int .i64 f, .int .i64 t, .string s])).run Try.prog w = .ok (.bool false) w := by
  rw [run_neq_struct, item_same]; rfl
theorem span_guard (b : BinOp) (x y : Operand) (xs ys : Array Value) (w : World) : (eqGuard b 36 x y (.agg xs) (.agg ys)).run Try.prog w = .ok () w :=
  run_eqGuard_agg w b 36 x y xs ys (by kernel_rfl)
theorem span_same (f t : Int) (w : World) : (Op.equalIn 10000 36 (.agg #[.int .i64 f, .int .i64 t]) (.agg #[.int .i64 f, .int .i64 t])).run Try.prog w = .ok true w := by
  have u3 := Try.underlying3
  have hS : Try.prog.underlying 36 = some (.struct (Try.prog.fieldsOf 36)) := by kernel_rfl
  have hp : Try.prog.stoodInHeld 36 = false := by kernel_rfl
  rw [show (10000 : Nat) = 9999 + 1 from rfl, run_equalIn_agg w 9999 36 _ _ hS hp]
  simp only [Program.fieldsOf, Try.underlying36]
  go_simp
theorem span_neq (f t : Int) (w : World) : (binOp .neq 36 (.agg #[.int .i64 f, .int .i64 t]) (.agg #[.int .i64 f, .int .i64 t])).run Try.prog w = .ok (.bool false) w := by
  rw [run_neq_struct, span_same]; rfl
/-- A list of spans, read. -/
def RSpans (w : World) (v : Value) (L : List (Int × Int)) : Prop := ∃ A c, v = .slice A L.length c ∧ L.length ≤ 1000000 ∧ L.length ≤ c ∧ (0 < L.length → ∃ g, A = some ⟨g, 0, none⟩ ∧ ∀ i (hi : i < L.length), w.cell? ⟨g, i * 2, none⟩ = some (.int .i64 L[i].1) ∧ w.cell? ⟨g, i * 2 + 1, none⟩ = some (.int .i64 L[i].2))
theorem RSpans.grow {w w' : World} {v : Value} {L : List (Int × Int)} (h : RSpans w v L) (hg : Grow w w') : RSpans w' v L := by
  obtain ⟨A, c, e, h1, h2, h3⟩ := h
  refine ⟨A, c, e, h1, h2, fun h0 => ?_⟩
  obtain ⟨g, e2, h4⟩ := h3 h0
  exact ⟨g, e2, fun i hi => ⟨hg.cell (h4 i hi).1, hg.cell (h4 i hi).2⟩⟩
theorem RSpans.nil (w : World) : RSpans w (.slice none 0 0) [] := ⟨none, 0, rfl, by simp, by simp, fun h => by simp at h⟩
theorem RSpans.of_own {w : World} {base : Nat} {e : TypeId} {v : Value} {L : List (Int × Int)} (h : w.ownsRow base e 2 v L.length (sCells L)) (hl : L.length ≤ 1000000) : RSpans w v L := by
  rcases h.2 with ⟨rfl, h0⟩ | ⟨g, cap, cur, rfl, hb, hg, hnc, _⟩
  · obtain rfl := List.eq_nil_of_length_eq_zero h0
    exact RSpans.nil w
  · refine ⟨_, cap, rfl, hl, hnc, fun h0 => ⟨g, rfl, fun i hi => ?_⟩⟩
    have e0 := sCells_at L i 0 hi (by omega)
    rw [Nat.add_zero] at e0
    exact ⟨(h.cellAt (i * 2) (by omega)).trans e0, (h.cellAt (i * 2 + 1) (by omega)).trans (sCells_at L i 1 hi (by omega))⟩
theorem RSpans.take {w : World} {A : Option Addr} {n c : Nat} {L : List (Int × Int)} (h : RSpans w (.slice A n c) L) (k : Nat) (hk : k ≤ L.length) : RSpans w (.slice A k c) (L.take k) := by
  obtain ⟨A', c', e, h1, h2, h3⟩ := h
  cases e
  have hl : (L.take k).length = k := by rw [List.length_take]; omega
  refine ⟨A, c, by rw [hl], by omega, by omega, fun h0 => ?_⟩
  obtain ⟨g, e2, h4⟩ := h3 (by omega)
  refine ⟨g, e2, fun i hi => ?_⟩
  have := h4 i (by omega)
  simpa using this
set_option maxRecDepth 100000 in
set_option maxHeartbeats 4000000 in
theorem items_c (L : List It) (va vb : Value) (w : World) (ha : RIts w va L) (hb : RIts w vb L) : Calls Try.prog 15 #[va, vb] w fun e w' => e = .returned (.bool true) ∧ Grow w w' := by
  obtain ⟨pa, ca, rfl, hl, -, hca⟩ := ha
  obtain ⟨pb, cb, rfl, -, -, hcb⟩ := hb
  have HX := hid (show ∀ k, k < L.length → ∃ (ga gb : Nat) (id f t : Int) (s : ByteArray), pa = some ⟨ga, 0, none⟩ ∧ pb = some ⟨gb, 0, none⟩ ∧ (w.cell? ⟨ga, k * 4, none⟩ = some (.int .i64 id) ∧ w.cell? ⟨ga, k * 4 + 1, none⟩ = some (.int .i64 f) ∧ w.cell? ⟨ga, k * 4 + 2, none⟩ = some (.int .i64 t) ∧ w.cell? ⟨ga, k * 4 + 3, none⟩ = some (.string s)) ∧ w.cell? ⟨gb, k * 4, none⟩ = some (.int .i64 id) ∧ w.cell? ⟨gb, k * 4 + 1, none⟩ = some (.int .i64 f) ∧ w.cell? ⟨gb, k * 4 + 2, none⟩ = some (.int .i64 t) ∧ w.cell? ⟨gb, k * 4 + 3, none⟩ = some (.string s) from by
    intro k hk
    obtain ⟨ga, e1, A⟩ := hca (by omega)
    obtain ⟨gb, e2, B⟩ := hcb (by omega)
    exact ⟨ga, gb, _, _, _, _, e1, e2, A k hk, B k hk⟩)
  clear hca hcb
  generalize L.length = n at *
  go_enter Try.func15, Try.ntmps15
  go_wp2_with fail
  go_loopw [5] (fun i wr => ∃ k : Nat, k ≤ n ∧ i = .int .i64 (k : Int) ∧ Grow w wr) (fun i _ => n - (intOf i).toNat)
  case atStart => exact ⟨0, by omega, rfl, Grow.refl _⟩
  case round =>
    obtain ⟨k, hk, rfl, hg⟩ := hrel
    by_cases hlt : k < n
    · obtain ⟨ga, gb, id, f, t, s, rfl, rfl, ⟨a0, a1, a2, a3⟩, b0, b1, b2, b3⟩ := HX.out k hlt
      replace a0 := hg.cell a0
      replace a1 := hg.cell a1
      replace a2 := hg.cell a2
      replace a3 := hg.cell a3
      replace b0 := hg.cell b0
      replace b1 := hg.cell b1
      replace b2 := hg.cell b2
      replace b3 := hg.cell b3
      have hk0 : (0 : Int) ≤ (k : Int) := by omega
      have hk1 : (k : Int) < (n : Int) := by omega
      have tg := fun b x y xs ys w => item_guard b x y xs ys w
      have tn := fun w => item_same id f t s w
      have tm := fun w => item_neq id f t s w
      go_wp2_with fail
      go_quiet (fail)
      clear tg tn tm
      go_wp2_with fail
      go_roundw
      case rel => exact ⟨k + 1, by omega, by go_num, Grow.drewNI hg _⟩
      case measure => (simp [intOf]; try omega)
    · go_wp2_with fail
      go_ret
      exact ⟨rfl, hg⟩
set_option maxRecDepth 100000 in
set_option maxHeartbeats 4000000 in
theorem spans_c (L : List (Int × Int)) (va vb : Value) (w : World) (ha : RSpans w va L) (hb : RSpans w vb L) : Calls Try.prog 12 #[va, vb] w fun e w' => e = .returned (.bool true) ∧ Grow w w' := by
  obtain ⟨pa, ca, rfl, hl, -, hca⟩ := ha
  obtain ⟨pb, cb, rfl, -, -, hcb⟩ := hb
  have HX := hid (show ∀ k, k < L.length → ∃ (ga gb : Nat) (f t : Int), pa = some ⟨ga, 0, none⟩ ∧ pb = some ⟨gb, 0, none⟩ ∧ (w.cell? ⟨ga, k * 2, none⟩ = some (.int .i64 f) ∧ w.cell? ⟨ga, k * 2 + 1, none⟩ = some (.int .i64 t)) ∧ w.cell? ⟨gb, k * 2, none⟩ = some (.int .i64 f) ∧ w.cell? ⟨gb, k * 2 + 1, none⟩ = some (.int .i64 t) from by
    intro k hk
    obtain ⟨ga, e1, A⟩ := hca (by omega)
    obtain ⟨gb, e2, B⟩ := hcb (by omega)
    exact ⟨ga, gb, _, _, e1, e2, A k hk, B k hk⟩)
  clear hca hcb
  generalize L.length = n at *
  go_enter Try.func12, Try.ntmps12
  go_wp2_with fail
  go_loopw [5] (fun i wr => ∃ k : Nat, k ≤ n ∧ i = .int .i64 (k : Int) ∧ Grow w wr) (fun i _ => n - (intOf i).toNat)
  case atStart => exact ⟨0, by omega, rfl, Grow.refl _⟩
  case round =>
    obtain ⟨k, hk, rfl, hg⟩ := hrel
    by_cases hlt : k < n
    · obtain ⟨ga, gb, f, t, rfl, rfl, ⟨a0, a1⟩, b0, b1⟩ := HX.out k hlt
      replace a0 := hg.cell a0
      replace a1 := hg.cell a1
      replace b0 := hg.cell b0
      replace b1 := hg.cell b1
      have hk0 : (0 : Int) ≤ (k : Int) := by omega
      have hk1 : (k : Int) < (n : Int) := by omega
      have tg := fun b x y xs ys w => span_guard b x y xs ys w
      have tn := fun w => span_same f t w
      have tm := fun w => span_neq f t w
      go_wp2_with fail
      go_quiet (fail)
      clear tg tn tm
      go_wp2_with fail
      go_roundw
      case rel => exact ⟨k + 1, by omega, by go_num, Grow.drewNI hg _⟩
      case measure => (simp [intOf]; try omega)
    · go_wp2_with fail
      go_ret
      exact ⟨rfl, hg⟩
end Go.Proofs.Ythmbnffddpnehaa
