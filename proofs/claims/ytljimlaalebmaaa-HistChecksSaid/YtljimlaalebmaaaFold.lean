/- What bits.Fold, bits.Unfold and the reference's compute. -/
import Derived.Test.YtljimlaalebmaaaRows
import Derived.Test.YtljimlaalebmaaaBitsPlain
namespace Go.Proofs.Ytljimlaalebmaaa
open Go.RowKit
set_option linter.unusedVariables false
/-- A number folded: near ones of either sign are small; and unfolded. -/
def foldV (n : Int) : Int := if 0 ≤ n then 2 * n else -2 * n - 1
def unfoldV (u : Int) : Int := if u % 2 = 0 then u / 2 else -1 - u / 2

theorem foldV_bd (n : Int) (h1 : -9223372036854775808 ≤ n) (h2 : n ≤ 9223372036854775807) : 0 ≤ foldV n ∧ foldV n ≤ 18446744073709551615 := by unfold foldV; split <;> omega
theorem unfoldV_bd (u : Int) (h1 : 0 ≤ u) (h2 : u ≤ 18446744073709551615) : -9223372036854775808 ≤ unfoldV u ∧ unfoldV u ≤ 9223372036854775807 := by unfold unfoldV; split <;> omega
theorem unfoldV_foldV (n : Int) : unfoldV (foldV n) = n := by unfold unfoldV foldV; split <;> split <;> omega
theorem foldV_unfoldV (u : Int) (h : 0 ≤ u) : foldV (unfoldV u) = u := by unfold unfoldV foldV; split <;> split <;> omega

theorem xor_max (a : Nat) (h : a < 18446744073709551616) : a ^^^ 18446744073709551615 = 18446744073709551615 - a := by
  have h1 : (BitVec.ofNat 64 a ^^^ BitVec.allOnes 64).toNat = (~~~ BitVec.ofNat 64 a).toNat := by rw [BitVec.xor_allOnes]
  have e : (BitVec.allOnes 64).toNat = 18446744073709551615 := by decide
  rw [BitVec.toNat_xor, BitVec.toNat_not, BitVec.toNat_ofNat, e, show (2 : Nat) ^ 64 = 18446744073709551616 from rfl, Nat.mod_eq_of_lt h] at h1
  omega

theorem fold_bits (n : Int) (h1 : -9223372036854775808 ≤ n) (h2 : n ≤ 9223372036854775807) :
    bits .xor .u64 (IntKind.u64.wrap (IntKind.u64.wrap n * 2)) (IntKind.u64.wrap (n / 9223372036854775808)) = foldV n := by
  unfold foldV
  by_cases h : 0 ≤ n
  · rw [if_pos h]
    have e1 : IntKind.u64.wrap (IntKind.u64.wrap n * 2) = ((2 * n).toNat : Int) := by rw [IntKind.wrap_u64, IntKind.wrap_u64]; omega
    have e2 : IntKind.u64.wrap (n / 9223372036854775808) = ((0 : Nat) : Int) := by rw [IntKind.wrap_u64]; omega
    rw [e1, e2, u64_xor_nat _ 0 (by omega) (by omega), Nat.xor_zero]
    omega
  · rw [if_neg h]
    have e1 : IntKind.u64.wrap (IntKind.u64.wrap n * 2) = ((2 * n + 18446744073709551616).toNat : Int) := by rw [IntKind.wrap_u64, IntKind.wrap_u64]; omega
    have e2 : IntKind.u64.wrap (n / 9223372036854775808) = ((18446744073709551615 : Nat) : Int) := by rw [IntKind.wrap_u64]; omega
    rw [e1, e2, u64_xor_nat _ 18446744073709551615 (by omega) (by omega), xor_max _ (by omega)]
    omega

theorem xor_i64 (a b : Int) (x y : Nat) (hx : x < 18446744073709551616) (hy : y < 18446744073709551616) (ha : a % 18446744073709551616 = x) (hb : b % 18446744073709551616 = y) :
    bits .xor .i64 a b = wrap64 ((x ^^^ y : Nat) : Int) := by
  have h1 : (BitVec.ofInt 64 a).toNat = x := by rw [BitVec.toNat_ofInt, show ((2 ^ 64 : Nat) : Int) = 18446744073709551616 from rfl, ha, Int.toNat_natCast]
  have h2 : (BitVec.ofInt 64 b).toNat = y := by rw [BitVec.toNat_ofInt, show ((2 ^ 64 : Nat) : Int) = 18446744073709551616 from rfl, hb, Int.toNat_natCast]
  show IntKind.i64.wrap ((BitVec.ofInt 64 a ^^^ BitVec.ofInt 64 b).toNat : Int) = _
  rw [BitVec.toNat_xor, h1, h2]
  unfold wrap64
  rw [IntKind.wrap_i64]

theorem unfold_bits (n : Int) (h1 : 0 ≤ n) (h2 : n ≤ 18446744073709551615) :
    bits .xor .i64 (n / 2) (wrap64 (-wrap64 (bits .and .u64 n 1))) = unfoldV n := by
  have ea : bits .and .u64 n 1 = n % 2 := by
    obtain ⟨m, rfl⟩ := Int.eq_ofNat_of_zero_le h1
    have := u64_and_nat m 1 (by omega) (by omega)
    rw [show ((1 : Nat) : Int) = 1 from rfl] at this
    rw [this, nat_mask1]
    omega
  rw [ea]
  unfold unfoldV
  by_cases h : n % 2 = 0
  · rw [if_pos h, xor_i64 _ _ (n / 2).toNat 0 (by omega) (by omega) (by omega) (by rw [h]; unfold wrap64; omega), Nat.xor_zero]
    unfold wrap64
    omega
  · have e : n % 2 = 1 := by omega
    rw [if_neg h, e, xor_i64 _ _ (n / 2).toNat 18446744073709551615 (by omega) (by omega) (by omega) (by unfold wrap64; omega), xor_max _ (by omega)]
    unfold wrap64
    omega

end Go.Proofs.Ytljimlaalebmaaa
