/- States as bytes, and which state bytes begin with. No Go text is spoken of. -/
import Derived.Test.YtljimlaalebmaaaBitsPlain
import Derived.Test.YtljimlaalebmaaaFold
namespace Go.Proofs.Ytljimlaalebmaaa
open Go.RowKit
set_option linter.unusedVariables false
set_option linter.unusedSimpArgs false
/-- The numbers of a state as bytes. -/
def numsL (xs : List Int) : List UInt8 := xs.flatMap fun n => varL (foldV n).toNat
def textL (xs : List Int) : List UInt8 := varL xs.length ++ numsL xs
theorem numsL_take (xs : List Int) (k : Nat) (h : k < xs.length) : numsL (xs.take (k + 1)) = numsL (xs.take k) ++ varL (foldV xs[k]).toNat := by
  unfold numsL
  rw [List.take_succ_eq_append_getElem h, List.flatMap_append]
  simp only [List.flatMap_cons, List.flatMap_nil, List.append_nil]
theorem numsL_length : ∀ xs : List Int, (numsL xs).length ≤ 10 * xs.length
  | [] => by simp [numsL]
  | n :: xs => by
    have h1 := varL_length (foldV n).toNat
    have h2 := numsL_length xs
    show (varL (foldV n).toNat ++ numsL xs).length ≤ _
    rw [List.length_append, List.length_cons]
    omega
/-- So many numbers of a text, and how many bytes they have. -/
def rdN : Nat → List UInt8 → Option (List Int × Nat)
  | 0, _ => some ([], 0)
  | m + 1, L => if (unvarP L).2 = 0 then none else (rdN m (L.drop (unvarP L).2)).map fun p => (unfoldV ((unvarP L).1 : Int) :: p.1, (unvarP L).2 + p.2)
def stateL (L : List UInt8) : List Int × Nat :=
  if (unvarP L).2 = 0 ∨ L.length < (unvarP L).1 then ([], 0) else match rdN (unvarP L).1 (L.drop (unvarP L).2) with
    | none => ([], 0)
    | some (l, j) => (l, (unvarP L).2 + j)
theorem rdN_len : ∀ (m : Nat) (L : List UInt8) (p : List Int × Nat), rdN m L = some p → p.1.length = m ∧ m ≤ L.length ∧ p.2 ≤ L.length
  | 0, L, p, h => by
    simp only [rdN, Option.some.injEq] at h
    subst h
    simp
  | m + 1, L, p, h => by
    unfold rdN at h
    split at h
    · cases h
    · rename_i hk
      obtain ⟨q, hq, rfl⟩ := Option.map_eq_some_iff.1 h
      obtain ⟨h1, h2, h3⟩ := rdN_len m _ _ hq
      obtain ⟨_, _, h4, _⟩ := unvarP_bd L
      rw [List.length_drop] at h2 h3
      simp only [List.length_cons]
      omega
theorem varL_posM (n : Nat) (h : n < 18446744073709551616) : 0 < (varL n).length := by
  have := (varL_can n h).1
  cases hh : varL n with
  | nil => rw [hh] at this; exact absurd this (by simp [Can])
  | cons a l => simp
theorem rdN_nums : ∀ (xs : List Int) (rest : List UInt8), (∀ n ∈ xs, -9223372036854775808 ≤ n ∧ n ≤ 9223372036854775807) → rdN xs.length (numsL xs ++ rest) = some (xs, (numsL xs).length)
  | [], rest, _ => rfl
  | n :: xs, rest, h => by
    obtain ⟨h1, h2⟩ := h n (by simp)
    obtain ⟨f1, f2⟩ := foldV_bd n h1 h2
    have hlt : (foldV n).toNat < 18446744073709551616 := by omega
    have hp := varL_posM _ hlt
    have e : numsL (n :: xs) ++ rest = varL (foldV n).toNat ++ (numsL xs ++ rest) := by show (varL (foldV n).toNat ++ numsL xs) ++ rest = _; rw [List.append_assoc]
    have el : (numsL (n :: xs)).length = (varL (foldV n).toNat).length + (numsL xs).length := by show (varL (foldV n).toNat ++ numsL xs).length = _; rw [List.length_append]
    rw [e, el]
    show rdN (xs.length + 1) _ = _
    unfold rdN
    rw [unvarP_varL _ hlt, if_neg (by omega)]
    simp only
    rw [List.drop_left, rdN_nums xs rest (fun m hm => h m (by simp [hm]))]
    simp only [Option.map_some, Option.some.injEq, Prod.mk.injEq, List.cons.injEq, and_true]
    rw [show (((foldV n).toNat : Nat) : Int) = foldV n by omega]
    exact unfoldV_foldV n
/-- A state that is written is read as it was, whatever stands behind it. -/
theorem state_text (xs : List Int) (rest : List UInt8) (h : ∀ n ∈ xs, -9223372036854775808 ≤ n ∧ n ≤ 9223372036854775807) (hl : xs.length < 18446744073709551616) :
    unvarP (textL xs ++ rest) = (xs.length, (varL xs.length).length) ∧ stateL (textL xs ++ rest) = (xs, (textL xs).length) := by
  have e : textL xs ++ rest = varL xs.length ++ (numsL xs ++ rest) := by unfold textL; rw [List.append_assoc]
  have hu := unvarP_varL xs.length hl (numsL xs ++ rest)
  have hp := varL_posM xs.length hl
  have hr := rdN_nums xs rest h
  obtain ⟨_, h2, _⟩ := rdN_len _ _ _ hr
  refine ⟨by rw [e, hu], ?_⟩
  rw [e]
  unfold stateL
  rw [hu]
  simp only
  rw [if_neg (by rw [List.length_append]; omega), List.drop_left, hr]
  simp only [textL, List.length_append]
/-- The reading's steps. -/
theorem rdN_step {m : Nat} {L : List UInt8} (hk : (unvarP L).2 ≠ 0) : rdN (m + 1) L = (rdN m (L.drop (unvarP L).2)).map fun p => (unfoldV ((unvarP L).1 : Int) :: p.1, (unvarP L).2 + p.2) := by
  conv => lhs; unfold rdN
  rw [if_neg hk]
theorem rdN_fail {m : Nat} {L : List UInt8} (hk : (unvarP L).2 = 0) : rdN (m + 1) L = none := by
  unfold rdN
  rw [if_pos hk]
end Go.Proofs.Ytljimlaalebmaaa
