/- What a source of numbers computes: New, Next, Below, Chance, and the reference's. -/
import Derived.Test.YtlhgdbangnohjaaRows
import Derived.Test.YtlhgdbangnohjaaRely
import Derived.RegionTactic
import Derived.ChangeAlike
import Derived.StillTailTactics
import Derived.Deep.QuietTactic
import Derived.BigQuiet
import Derived.Laws.Closers25b
namespace Go.Proofs.Ytlhgdbangnohjaa
open Go.RowKit
set_option linter.unusedVariables false
set_option linter.unusedSimpArgs false
def mix1 (x : Int) : Int := bits .xor .u64 x (x / 4096)
def mix2 (x : Int) : Int := bits .xor .u64 x (IntKind.u64.wrap (x * 33554432))
def mix3 (x : Int) : Int := bits .xor .u64 x (x / 134217728)
/-- The number behind one. -/
def nxt (x : Int) : Int := mix3 (mix2 (mix1 x))
/-- What is told of a number. -/
def told (x : Int) : Int := IntKind.u64.wrap (x * 2685821657736338717)
/-- An unsigned number of 64 bits. -/
def U64 (x : Int) : Prop := 0 ≤ x ∧ x ≤ 18446744073709551615
theorem mix1_u (x : Int) : U64 (mix1 x) := ⟨bits_lo_u64 _ _ _, bits_hi_u64 _ _ _⟩
theorem mix2_u (x : Int) : U64 (mix2 x) := ⟨bits_lo_u64 _ _ _, bits_hi_u64 _ _ _⟩
theorem mix3_u (x : Int) : U64 (mix3 x) := ⟨bits_lo_u64 _ _ _, bits_hi_u64 _ _ _⟩
theorem nxt_u (x : Int) : U64 (nxt x) := mix3_u _
theorem wrap_u (x : Int) : U64 (IntKind.u64.wrap x) := by
  have h1 := Int.emod_nonneg x (show (18446744073709551616 : Int) ≠ 0 by decide)
  have h2 := Int.emod_lt_of_pos x (show (0 : Int) < 18446744073709551616 by decide)
  have e : IntKind.u64.wrap x = x % 18446744073709551616 := by simp [IntKind.wrap, IntKind.bits, IntKind.signed]
  unfold U64
  rw [e]
  omega
theorem told_u (x : Int) : U64 (told x) := wrap_u _
theorem nxt_zero : nxt 0 = 0 := by decide +kernel
theorem told_zero : told 0 = 0 := by decide +kernel
theorem nxt_one : told (nxt 1) = 5180492295206395165 := by decide +kernel
theorem div_u (x : Int) (h : U64 x) (k : Int) (hk : 0 < k) : IntKind.u64.wrap (x.tdiv k) = x / k := by
  have e : IntKind.u64.wrap (x.tdiv k) = x.tdiv k % 18446744073709551616 := by simp [IntKind.wrap, IntKind.bits, IntKind.signed]
  obtain ⟨h1, h2⟩ := h
  have hd : x.tdiv k = x / k := Int.tdiv_eq_ediv_of_nonneg h1
  have hn : 0 ≤ x / k := Int.ediv_nonneg h1 (by omega)
  have hl : x / k ≤ x := Int.ediv_le_self _ h1
  rw [e, hd]
  omega
theorem RNext_c (x : Int) (h : U64 x) (w : World) : Calls Try.prog 11 #[.int .u64 x] w fun e w' => e = .returned (.tuple #[.int .u64 (nxt x), .int .u64 (told (nxt x))]) ∧ w = w' := by
  have e1 := div_u x h 4096 (by decide)
  have e3 := div_u _ (mix2_u (mix1 x)) 134217728 (by decide)
  unfold nxt told
  have q1 : mix1 x = bits .xor .u64 x (IntKind.u64.wrap (x.tdiv 4096)) := by rw [e1]; rfl
  have q3 : mix3 (mix2 (mix1 x)) = bits .xor .u64 (mix2 (mix1 x)) (IntKind.u64.wrap ((mix2 (mix1 x)).tdiv 134217728)) := by rw [e3]; rfl
  rw [q3, mix2, q1]
  clear e1 e3 q1 q3
  go_enter Try.func11, Try.ntmps11
  go_wp2
  go_ret2
  exact ⟨rfl, rfl⟩
/-- A source lies here, at this number. -/
def Src (w : World) (g : Nat) (x : Int) : Prop := w.heap[g]? = some (.cells #[.int .u64 x] 59 (0, 0))
theorem Src.below {w w' : World} {g : Nat} {x : Int} {B : Nat} (h : Src w g x) (hb : Below B w w') (hg : g < B) : Src w' g x := heap_old hb hg h
set_option maxRecDepth 100000 in
theorem Next_c (x : Int) (g B : Nat) (w : World) (h : U64 x) (hh : Src w g x) (hB : B ≤ g) : Calls Try.prog 12 #[.pointer (some ⟨g, 0, none⟩)] w fun e w' => e = .returned (.int .u64 (told (nxt x))) ∧ Below B w w' ∧ Src w' g (nxt x) := by
  unfold Src at hh
  have hc : w.cell? ⟨g, 0, none⟩ = some (.int .u64 x) := by rw [heap_cell hh]; rfl
  have hf : w.frozen? ⟨g, 0, none⟩ = false := heap_frozen hh 0 (by omega)
  by_cases hx : x = 0
  · subst hx
    rw [nxt_zero, told_zero]
    have H := hid hh
    clear h hh
    go_enter Try.func12, Try.ntmps12
    go_wp2
    go_ret
    exact ⟨rfl, Below.refl _ _, H.out⟩
  · have hx2 : (x == 0) = false := by simpa using hx
    obtain ⟨h1, h2⟩ := h
    unfold nxt told
    obtain ⟨l1, u1⟩ := mix1_u x
    have m1 : bits BinOp.xor IntKind.u64 x (x / 4096) = mix1 x := rfl
    have m2 : bits BinOp.xor IntKind.u64 (mix1 x) (IntKind.u64.wrap (mix1 x * 33554432)) = mix2 (mix1 x) := rfl
    have m3 : bits BinOp.xor IntKind.u64 (mix2 (mix1 x)) (mix2 (mix1 x) / 134217728) = mix3 (mix2 (mix1 x)) := rfl
    obtain ⟨l2, u2⟩ := mix2_u (mix1 x)
    generalize mix3 (mix2 (mix1 x)) = x3 at *
    generalize mix2 (mix1 x) = x2 at *
    generalize mix1 x = x1 at *
    have M1 := hid m1
    have M2 := hid m2
    have M3 := hid m3
    clear m1 m2 m3
    have HH := hid hh
    clear hh
    go_enter Try.func12, Try.ntmps12
    go_wp2
    go_still_tail 12, (by kernel_rfl)
    go_wp2
    rw [M1.out]
    have hh1 : ((w.setCell ⟨g, 0, none⟩ (.int .u64 x1)).drew).heap[g]? = some (.cells #[.int .u64 x1] 59 (0, 0)) := heap_set HH.out 0 _
    have B1 : Below B w ((w.setCell ⟨g, 0, none⟩ (.int .u64 x1)).drew) := ((Below.refl B w).setCell (p := ⟨g, 0, none⟩) hB (.int .u64 x1)).drew
    generalize (w.setCell ⟨g, 0, none⟩ (.int .u64 x1)).drew = w1 at *
    have hc1 : w1.cell? ⟨g, 0, none⟩ = some (.int .u64 x1) := by rw [heap_cell hh1]; rfl
    have hf1 : w1.frozen? ⟨g, 0, none⟩ = false := heap_frozen hh1 0 (by omega)
    have HH1 := hid hh1
    clear hc hf hh1
    go_still_tail 12, (by kernel_rfl)
    go_wp2
    rw [M2.out]
    have hh2 : ((w1.setCell ⟨g, 0, none⟩ (.int .u64 x2)).drew).heap[g]? = some (.cells #[.int .u64 x2] 59 (0, 0)) := heap_set HH1.out 0 _
    have B2 : Below B w ((w1.setCell ⟨g, 0, none⟩ (.int .u64 x2)).drew) := (B1.setCell (p := ⟨g, 0, none⟩) hB (.int .u64 x2)).drew
    generalize (w1.setCell ⟨g, 0, none⟩ (.int .u64 x2)).drew = w2 at *
    have hc2 : w2.cell? ⟨g, 0, none⟩ = some (.int .u64 x2) := by rw [heap_cell hh2]; rfl
    have hf2 : w2.frozen? ⟨g, 0, none⟩ = false := heap_frozen hh2 0 (by omega)
    have HH2 := hid hh2
    clear hc1 hf1 hh2
    go_still_tail 12, (by kernel_rfl)
    have hh3 : ((w2.setCell ⟨g, 0, none⟩ (.int .u64 x3)).drew).heap[g]? = some (.cells #[.int .u64 x3] 59 (0, 0)) := heap_set HH2.out 0 _
    have B3 : Below B w ((w2.setCell ⟨g, 0, none⟩ (.int .u64 x3)).drew) := (B2.setCell (p := ⟨g, 0, none⟩) hB (.int .u64 x3)).drew
    have hM := M3.out
    go_wp2
    go_ret
    exact ⟨rfl, B3, hh3⟩
end Go.Proofs.Ytlhgdbangnohjaa
