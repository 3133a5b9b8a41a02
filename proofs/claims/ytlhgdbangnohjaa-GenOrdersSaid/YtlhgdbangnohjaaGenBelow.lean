/- What New, Below, Chance of a source and the reference's Seed and Below compute. -/
import Derived.Test.YtlhgdbangnohjaaGenNext
namespace Go.Proofs.Ytlhgdbangnohjaa
open Go.RowKit
set_option linter.unusedVariables false
set_option linter.unusedSimpArgs false
/-- The first number. -/
def seedV (s : Int) : Int := if s = 0 then 1 else s
theorem seedV_u {s : Int} (h : U64 s) : U64 (seedV s) := by unfold seedV; split; exact ⟨by decide, by decide⟩; exact h
/-- The number behind, after a number below n was asked for. -/
def belX (x n : Int) : Int := if n < 1 then x else nxt x
/-- A number below n. -/
def belV (x n : Int) : Int := if n < 1 then 0 else told (nxt x) % n
theorem belX_u {x : Int} (n : Int) (h : U64 x) : U64 (belX x n) := by unfold belX; split; exact h; exact nxt_u x
theorem bel_conv (t n : Int) (h : U64 t) (h1 : 1 ≤ n) (h2 : n ≤ 9223372036854775807) : RowKit.wrap64 (t.tmod n) = t % n := by
  obtain ⟨l, u⟩ := h
  have ht : t.tmod n = t % n := Int.tmod_eq_emod_of_nonneg l
  have h3 := Int.emod_nonneg t (show n ≠ 0 by omega)
  have h4 := Int.emod_lt_of_pos t (show 0 < n by omega)
  rw [ht]
  simp only [RowKit.wrap64]
  omega
theorem New_c (s : Int) (w : World) : Calls Try.prog 9 #[.int .u64 s] w fun e w' => e = .returned (.pointer (some ⟨w.heap.size, 0, none⟩)) ∧ Grow w w' ∧ Src w' w.heap.size (seedV s) := by
  by_cases h : s = 0
  · subst h
    go_enter Try.func9, Try.ntmps9
    go_wp2
    go_ret
    exact ⟨rfl, Grow.alloc _ _, heap_new _ _⟩
  · have q : (s == 0) = false := by simpa using h
    have e : seedV s = s := by unfold seedV; rw [if_neg h]
    rw [e]
    go_enter Try.func9, Try.ntmps9
    go_wp2
    go_ret
    exact ⟨rfl, Grow.alloc _ _, heap_new _ _⟩
theorem Seed_c (s : Int) (w : World) : Calls Try.prog 10 #[.int .u64 s] w fun e w' => e = .returned (.int .u64 (seedV s)) ∧ w = w' := by
  by_cases h : s = 0
  · subst h
    go_enter Try.func10, Try.ntmps10
    go_wp2
    go_ret
    exact ⟨rfl, rfl⟩
  · have q : (s == 0) = false := by simpa using h
    have e : seedV s = s := by unfold seedV; rw [if_neg h]
    rw [e]
    go_enter Try.func10, Try.ntmps10
    go_wp2
    go_ret
    exact ⟨rfl, rfl⟩
theorem Below_c (x n : Int) (g B : Nat) (w : World) (h : U64 x) (h2 : n ≤ 9223372036854775807) (hh : Src w g x) (hB : B ≤ g) : Calls Try.prog 14 #[.pointer (some ⟨g, 0, none⟩), .int .i64 n] w fun e w' => e = .returned (.int .i64 (belV x n)) ∧ Below B w w' ∧ Src w' g (belX x n) := by
  have c1 := hid (Next_c x g B w h hh hB)
  have H := hid hh
  have hc := bel_conv (told (nxt x)) n (told_u _)
  have hl := told_u (nxt x)
  unfold belV belX
  generalize told (nxt x) = t at *
  generalize nxt x = y at *
  clear hh
  by_cases hn : n < 1
  · rw [if_pos hn, if_pos hn]
    go_enter Try.func14, Try.ntmps14
    go_wp2_with fail
    go_ret
    exact ⟨rfl, Below.refl _ _, H.out⟩
  · rw [if_neg hn, if_neg hn]
    have hC := hid (hc (by omega) h2)
    have hu : IntKind.u64.wrap n = n := by
      have e : IntKind.u64.wrap n = n % 18446744073709551616 := by simp [IntKind.wrap, IntKind.bits, IntKind.signed]
      rw [e]; omega
    have hn0 : 1 ≤ n := by omega
    clear hc
    go_enter Try.func14, Try.ntmps14
    go_wp2_with fail
    refine (c1.out).mono ?_
    rintro e w1 ⟨rfl, b1, s1⟩
    have s1 := hid s1
    go_wp2_with fail
    go_ret
    refine ⟨?_, b1, s1.out⟩
    rw [← hC.out]
    rfl
theorem RBelow_c (x n : Int) (w : World) (h : U64 x) (h2 : n ≤ 9223372036854775807) : Calls Try.prog 13 #[.int .u64 x, .int .i64 n] w fun e w' => e = .returned (.tuple #[.int .u64 (belX x n), .int .i64 (belV x n)]) ∧ Grow w w' := by
  have c1 := hid (RNext_c x h w)
  have hc := bel_conv (told (nxt x)) n (told_u _)
  unfold belV belX
  generalize told (nxt x) = t at *
  generalize nxt x = y at *
  by_cases hn : n < 1
  · rw [if_pos hn, if_pos hn]
    go_enter Try.func13, Try.ntmps13
    go_wp2_with fail
    go_ret2
    exact ⟨rfl, Grow.refl _⟩
  · rw [if_neg hn, if_neg hn]
    have hC := hid (hc (by omega) h2)
    have hu : IntKind.u64.wrap n = n := by
      have e : IntKind.u64.wrap n = n % 18446744073709551616 := by simp [IntKind.wrap, IntKind.bits, IntKind.signed]
      rw [e]; omega
    have hn0 : 1 ≤ n := by omega
    clear hc
    go_enter Try.func13, Try.ntmps13
    go_wp2_with fail
    refine (c1.out).mono ?_
    rintro e w1 ⟨rfl, rfl⟩
    go_wp2_with fail
    go_quiet (fail)
    go_wp2_with fail
    go_ret2
    refine ⟨?_, ⟨rfl, rfl, rfl, Nat.le_refl _, fun _ _ => rfl⟩⟩
    rw [← hC.out]
    rfl
theorem Chance_c (x n : Int) (g B : Nat) (w : World) (h : U64 x) (hh : Src w g x) (hB : B ≤ g) : Calls Try.prog 15 #[.pointer (some ⟨g, 0, none⟩), .int .i64 n] w fun e w' => e = .returned (.bool (decide (belV x 100 < n))) ∧ Below B w w' ∧ Src w' g (belX x 100) := by
  have c1 := hid (Below_c x 100 g B w h (by decide) hh hB)
  clear hh
  generalize belV x 100 = V at *
  generalize belX x 100 = X at *
  go_enter Try.func15, Try.ntmps15
  go_wp2_with fail
  refine (c1.out).mono ?_
  rintro e w1 ⟨rfl, b1, s1⟩
  have s1 := hid s1
  go_wp2_with fail
  go_ret
  exact ⟨rfl, b1, s1.out⟩
theorem awake_c (w : World) : Calls Try.prog 16 #[] w fun e w' => e = .returned (.bool true) ∧ Grow w w' := by
  have c1 := hid (RNext_c 1 ⟨by decide, by decide⟩ w)
  have c2 := hid (New_c 1 w)
  have c3 := hid (fun w1 (hs : Src w1 w.heap.size 1) => Next_c 1 w.heap.size w.heap.size w1 ⟨by decide, by decide⟩ hs (Nat.le_refl _))
  rw [nxt_one] at c1
  simp only [nxt_one] at c3
  generalize nxt 1 = X at *
  go_enter Try.func16, Try.ntmps16
  go_wp2_with fail
  refine (c1.out).mono ?_
  rintro e w1 ⟨rfl, rfl⟩
  go_wp2_with fail
  refine (c2.out).mono ?_
  rintro e w1 ⟨rfl, b1, s1⟩
  have s1 := hid s1
  go_wp2_with fail
  refine (c3.out _ s1.out).mono ?_
  rintro e w2 ⟨rfl, b2, s2⟩
  clear s2
  go_wp2_with fail
  go_ret
  exact ⟨rfl, Below.trans b1 b2⟩
end Go.Proofs.Ytlhgdbangnohjaa
