/- What a source's calls change: its own cell alone. -/
import Derived.Test.YtlhgdbangnohjaaGenBelow
namespace Go.Proofs.Ytlhgdbangnohjaa
open Go.RowKit
set_option linter.unusedVariables false
set_option linter.unusedSimpArgs false
/-- Only this block may have changed. -/
structure Only (g : Nat) (w w' : World) : Prop where
  os : w'.os = w.os
  tape : w'.tape = w.tape
  output : w'.output = w.output
  size : w'.heap.size = w.heap.size
  block : ∀ k, k ≠ g → w'.heap[k]? = w.heap[k]?
theorem Only.refl (g : Nat) (w : World) : Only g w w := ⟨rfl, rfl, rfl, rfl, fun _ _ => rfl⟩
theorem Only.trans {g : Nat} {a b c : World} (h : Only g a b) (k : Only g b c) : Only g a c := ⟨k.os.trans h.os, k.tape.trans h.tape, k.output.trans h.output, k.size.trans h.size, fun j hj => (k.block j hj).trans (h.block j hj)⟩
theorem Only.set {g : Nat} {a b : World} (h : Only g a b) (o : Nat) (u : Value) : Only g a (b.setCell ⟨g, o, none⟩ u) :=
  ⟨h.os, h.tape, h.output, by simp [h.size], fun k hk => by rw [Below.heap_setCell _ _ _ _ hk]; exact h.block k hk⟩
theorem Only.drew {g : Nat} {a b : World} (h : Only g a b) : Only g a b.drew := ⟨h.os, h.tape, h.output, h.size, h.block⟩
theorem Only.below {g B : Nat} {a b : World} (h : Only g a b) (hB : B ≤ g) : Below B a b := ⟨h.os, h.tape, h.output, Nat.le_of_eq h.size.symm, fun k hk => h.block k (by omega)⟩
set_option maxRecDepth 100000 in
theorem Next_m (x : Int) (g : Nat) (w : World) (h : U64 x) (hh : Src w g x) : Calls Try.prog 12 #[.pointer (some ⟨g, 0, none⟩)] w fun e w' => e = .returned (.int .u64 (told (nxt x))) ∧ Only g w w' ∧ Src w' g (nxt x) := by
  unfold Src at hh
  have hc : w.cell? ⟨g, 0, none⟩ = some (.int .u64 x) := by rw [heap_cell hh]; rfl
  have hf : w.frozen? ⟨g, 0, none⟩ = false := heap_frozen hh 0 (by omega)
  by_cases hx : x = 0
  · subst hx
    rw [nxt_zero, told_zero]
    have H := hid hh
    clear h hh
    go_enter Try.func12, Try.ntmps12
    go_wp2
    go_ret
    exact ⟨rfl, Only.refl _ _, H.out⟩
  · have hx2 : (x == 0) = false := by simpa using hx
    obtain ⟨h1, h2⟩ := h
    unfold nxt told
    obtain ⟨l1, u1⟩ := mix1_u x
    have m1 : bits BinOp.xor IntKind.u64 x (x / 4096) = mix1 x := rfl
    have m2 : bits BinOp.xor IntKind.u64 (mix1 x) (IntKind.u64.wrap (mix1 x * 33554432)) = mix2 (mix1 x) := rfl
    have m3 : bits BinOp.xor IntKind.u64 (mix2 (mix1 x)) (mix2 (mix1 x) / 134217728) = mix3 (mix2 (mix1 x)) := rfl
    obtain ⟨l2, u2⟩ := mix2_u (mix1 x)
    generalize mix3 (mix2 (mix1 x)) = x3 at *
    generalize mix2 (mix1 x) = x2 at *
    generalize mix1 x = x1 at *
    have M1 := hid m1
    have M2 := hid m2
    have M3 := hid m3
    clear m1 m2 m3
    have HH := hid hh
    clear hh
    go_enter Try.func12, Try.ntmps12
    go_wp2
    go_still_tail 12, (by kernel_rfl)
    go_wp2
    rw [M1.out]
    have hh1 : ((w.setCell ⟨g, 0, none⟩ (.int .u64 x1)).drew).heap[g]? = some (.cells #[.int .u64 x1] 59 (0, 0)) := heap_set HH.out 0 _
    have B1 : Only g w ((w.setCell ⟨g, 0, none⟩ (.int .u64 x1)).drew) := ((Only.refl g w).set 0 (.int .u64 x1)).drew
    generalize (w.setCell ⟨g, 0, none⟩ (.int .u64 x1)).drew = w1 at *
    have hc1 : w1.cell? ⟨g, 0, none⟩ = some (.int .u64 x1) := by rw [heap_cell hh1]; rfl
    have hf1 : w1.frozen? ⟨g, 0, none⟩ = false := heap_frozen hh1 0 (by omega)
    have HH1 := hid hh1
    clear hc hf hh1
    go_still_tail 12, (by kernel_rfl)
    go_wp2
    rw [M2.out]
    have hh2 : ((w1.setCell ⟨g, 0, none⟩ (.int .u64 x2)).drew).heap[g]? = some (.cells #[.int .u64 x2] 59 (0, 0)) := heap_set HH1.out 0 _
    have B2 : Only g w ((w1.setCell ⟨g, 0, none⟩ (.int .u64 x2)).drew) := (B1.set 0 (.int .u64 x2)).drew
    generalize (w1.setCell ⟨g, 0, none⟩ (.int .u64 x2)).drew = w2 at *
    have hc2 : w2.cell? ⟨g, 0, none⟩ = some (.int .u64 x2) := by rw [heap_cell hh2]; rfl
    have hf2 : w2.frozen? ⟨g, 0, none⟩ = false := heap_frozen hh2 0 (by omega)
    have HH2 := hid hh2
    clear hc1 hf1 hh2
    go_still_tail 12, (by kernel_rfl)
    have hh3 : ((w2.setCell ⟨g, 0, none⟩ (.int .u64 x3)).drew).heap[g]? = some (.cells #[.int .u64 x3] 59 (0, 0)) := heap_set HH2.out 0 _
    have B3 : Only g w ((w2.setCell ⟨g, 0, none⟩ (.int .u64 x3)).drew) := (B2.set 0 (.int .u64 x3)).drew
    have hM := M3.out
    go_wp2
    go_ret
    exact ⟨rfl, B3, hh3⟩
theorem Below_m (x n : Int) (g : Nat) (w : World) (h : U64 x) (h2 : n ≤ 9223372036854775807) (hh : Src w g x) : Calls Try.prog 14 #[.pointer (some ⟨g, 0, none⟩), .int .i64 n] w fun e w' => e = .returned (.int .i64 (belV x n)) ∧ Only g w w' ∧ Src w' g (belX x n) := by
  have c1 := hid (Next_m x g w h hh)
  have H := hid hh
  have hc := bel_conv (told (nxt x)) n (told_u _)
  have hl := told_u (nxt x)
  unfold belV belX
  generalize told (nxt x) = t at *
  generalize nxt x = y at *
  clear hh
  by_cases hn : n < 1
  · rw [if_pos hn, if_pos hn]
    go_enter Try.func14, Try.ntmps14
    go_wp2_with fail
    go_ret
    exact ⟨rfl, Only.refl _ _, H.out⟩
  · rw [if_neg hn, if_neg hn]
    have hC := hid (hc (by omega) h2)
    have hu : IntKind.u64.wrap n = n := by
      have e : IntKind.u64.wrap n = n % 18446744073709551616 := by simp [IntKind.wrap, IntKind.bits, IntKind.signed]
      rw [e]; omega
    have hn0 : 1 ≤ n := by omega
    clear hc
    go_enter Try.func14, Try.ntmps14
    go_wp2_with fail
    refine (c1.out).mono ?_
    rintro e w1 ⟨rfl, b1, s1⟩
    have s1 := hid s1
    go_wp2_with fail
    go_ret
    refine ⟨?_, b1, s1.out⟩
    rw [← hC.out]
    rfl
theorem Chance_m (x n : Int) (g : Nat) (w : World) (h : U64 x) (hh : Src w g x) : Calls Try.prog 15 #[.pointer (some ⟨g, 0, none⟩), .int .i64 n] w fun e w' => e = .returned (.bool (decide (belV x 100 < n))) ∧ Only g w w' ∧ Src w' g (belX x 100) := by
  have c1 := hid (Below_m x 100 g w h (by decide) hh)
  clear hh
  generalize belV x 100 = V at *
  generalize belX x 100 = X at *
  go_enter Try.func15, Try.ntmps15
  go_wp2_with fail
  refine (c1.out).mono ?_
  rintro e w1 ⟨rfl, b1, s1⟩
  have s1 := hid s1
  go_wp2_with fail
  go_ret
  exact ⟨rfl, b1, s1.out⟩
end Go.Proofs.Ytlhgdbangnohjaa
