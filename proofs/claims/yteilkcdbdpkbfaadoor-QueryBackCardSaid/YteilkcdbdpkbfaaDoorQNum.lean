/- Numbers in digits, as they are written: read as they were, and no longer than how they were read. No Go text is spoken of. -/
import Derived.Test.YteilkcdbdpkbfaaDoorQSim
import Derived.Lib.ItoaLen
namespace Go.Proofs.YteilkcdbdpkbfaaDoor
open Go.RowKit
set_option linter.unusedVariables false
set_option linter.unusedSimpArgs false
theorem digit_toNat {k : Nat} (h : k < 10) : (UInt8.ofNat (48 + k)).toNat = 48 + k := by
  rw [UInt8.toNat_ofNat']
  omega
theorem digit_isDig {k : Nat} (h : k < 10) : isDig (UInt8.ofNat (48 + k)) = true := by
  unfold isDig
  rw [digit_toNat h]
  simp
  omega
theorem dec_dig : ∀ (u : Nat), ∀ b ∈ Lib.decDigits u, isDig b = true := by
  intro u
  induction u using Nat.strongRecOn with
  | _ u ih =>
    intro b hb
    rw [Lib.decDigits] at hb
    split at hb
    · rename_i h
      simp only [List.mem_singleton] at hb
      rw [hb]
      exact digit_isDig h
    · rename_i h
      rw [List.mem_append] at hb
      rcases hb with hb | hb
      · exact ih (u / 10) (by omega) b hb
      · simp only [List.mem_singleton] at hb
        rw [hb]
        exact digit_isDig (Nat.mod_lt _ (by omega))
theorem decV_dec : ∀ (u : Nat), decV (Lib.decDigits u) = u := by
  intro u
  induction u using Nat.strongRecOn with
  | _ u ih =>
    rw [Lib.decDigits]
    split
    · rename_i h
      simp only [decV, List.length_nil, Nat.pow_zero, Nat.mul_one, Nat.add_zero]
      rw [digit_toNat h]
      omega
    · rename_i h
      rw [decV_append, ih (u / 10) (by omega)]
      simp only [decV, List.length_singleton, List.length_nil, Nat.pow_zero, Nat.mul_one, Nat.add_zero, Nat.pow_one]
      rw [digit_toNat (Nat.mod_lt _ (by omega))]
      omega
theorem dec_ne (u : Nat) : Lib.decDigits u ≠ [] := by
  intro e
  have h := Lib.decDigits_length u
  rw [e] at h
  have := Lib.nDigits_pos u
  simp at h
  omega
theorem nDigits_le : ∀ (k u : Nat), 1 ≤ k → u < 10 ^ k → Lib.nDigits u ≤ k
  | 0, u, h, _ => by omega
  | k + 1, u, _, h => by
    by_cases hu : u < 10
    · rw [Lib.nDigits_small hu]; omega
    · rw [Lib.nDigits_big hu]
      have hk : 1 ≤ k := by
        rcases Nat.eq_zero_or_pos k with e | e
        · subst e; simp at h; omega
        · exact e
      have := nDigits_le k (u / 10) hk (by rw [Nat.pow_succ] at h; omega)
      omega
theorem decV_lt : ∀ S : List UInt8, (∀ b ∈ S, isDig b = true) → decV S < 10 ^ S.length
  | [], _ => by simp [decV]
  | b :: l, h => by
    have h1 := decV_lt l (fun x hx => h x (by simp [hx]))
    have h2 := h b (by simp)
    unfold isDig at h2
    simp only [Bool.and_eq_true, decide_eq_true_eq] at h2
    rw [decV_cons, List.length_cons, Nat.pow_succ]
    have h3 : (b.toNat - 48) * 10 ^ l.length ≤ 9 * 10 ^ l.length := Nat.mul_le_mul_right _ (by omega)
    omega
theorem dec_short {S : List UInt8} (h : ∀ b ∈ S, isDig b = true) (h0 : S ≠ []) : (Lib.decDigits (decV S)).length ≤ S.length := by
  rw [Lib.decDigits_length]
  exact nDigits_le _ _ (List.length_pos_iff.2 h0) (decV_lt S h)
/-- A number's sign. -/
def vTok (x : Int) : Tok := ⟨2, Lib.itoa x, x, 0⟩
theorem vTok_good {x : Int} (h1 : -1099511627776 ≤ x) (h2 : x ≤ 1099511627776) : Good (vTok x) := by
  by_cases hx : x < 0
  · obtain ⟨u, rfl⟩ : ∃ u : Nat, x = -(u : Int) := ⟨x.natAbs, by omega⟩
    have e : Lib.itoa (-(u : Int)) = 45 :: Lib.decDigits u := Lib.itoa_neg u (by omega)
    refine ⟨?_, ?_, ?_⟩
    · show Lib.itoa (-(u : Int)) ≠ []
      rw [e]; simp
    · show ∀ b ∈ Lib.itoa (-(u : Int)), isBl b = false
      rw [e]
      intro b hb
      rcases List.mem_cons.1 hb with rfl | hb
      · decide
      · exact isBl_dig (dec_dig u b hb)
    · show stepT (Lib.itoa (-(u : Int))) = .tok 2 (Lib.itoa (-(u : Int))).length (-(u : Int))
      rw [e, stepT_neg (dec_dig u) (dec_ne u), decV_dec, if_neg (by omega), List.length_cons, Nat.add_comm 1]
  · obtain ⟨u, rfl⟩ : ∃ u : Nat, x = (u : Int) := ⟨x.toNat, by omega⟩
    have e : Lib.itoa (u : Int) = Lib.decDigits u := Lib.itoa_nonneg u
    refine ⟨?_, ?_, ?_⟩
    · show Lib.itoa (u : Int) ≠ []
      rw [e]; exact dec_ne u
    · show ∀ b ∈ Lib.itoa (u : Int), isBl b = false
      rw [e]
      exact fun b hb => isBl_dig (dec_dig u b hb)
    · show stepT (Lib.itoa (u : Int)) = .tok 2 (Lib.itoa (u : Int)).length (u : Int)
      rw [e, stepT_num (dec_dig u) (dec_ne u), decV_dec, if_neg (by omega)]
/-- A number that is read: how great it is, and how long it is written. -/
theorem num_read {t : Tok} (h : Good t) (hk : t.kind = 2) : -1099511627776 ≤ t.num ∧ t.num ≤ 1099511627776 ∧ (Lib.itoa t.num).length ≤ t.text.length := by
  obtain ⟨h0, -, hs⟩ := h
  rw [hk] at hs
  unfold stepT at hs
  split at hs
  · cases hs
  · split at hs
    · rename_i hd
      have hdig : ∀ b ∈ (t.text.drop (minusN t.text)).take (digsM t.text), isDig b = true := by
        unfold digsM digs
        rw [take_takeWhile]
        exact all_takeWhile _ _
      have hlen : ((t.text.drop (minusN t.text)).take (digsM t.text)).length = digsM t.text := by
        rw [List.length_take]
        have := digs_le (t.text.drop (minusN t.text))
        unfold digsM at *
        omega
      generalize (t.text.drop (minusN t.text)).take (digsM t.text) = S at *
      have hS : S ≠ [] := List.length_pos_iff.1 (by omega)
      rw [valF_dec] at hs
      simp only [Nat.zero_mul, Nat.zero_add] at hs
      split at hs
      · cases hs
      · rename_i v hv
        split at hv
        · cases hv
        · rename_i hc
          simp only [Option.some.injEq] at hv
          have hle : decV S ≤ 1099511627776 := by
            rcases Nat.lt_or_ge 1099511627776 (decV S) with h | h
            · exact absurd ⟨hS, h⟩ hc
            · exact h
          have hsh := dec_short hdig hS
          injection hs with _ hl hn
          rw [← hn, ← hl]
          subst hv
          split
          · rename_i hm
            refine ⟨by omega, by omega, ?_⟩
            rcases Nat.eq_zero_or_pos (decV S) with e | e
            · rw [e] at hsh ⊢
              simp only [Int.natCast_zero, Int.neg_zero]
              have e2 : Lib.itoa 0 = Lib.decDigits 0 := Lib.itoa_nonneg 0
              rw [e2]
              omega
            · rw [Lib.itoa_neg _ e, List.length_cons]
              omega
          · refine ⟨by omega, by omega, ?_⟩
            rw [Lib.itoa_nonneg]
            omega
    · split at hs <;> cases hs
end Go.Proofs.YteilkcdbdpkbfaaDoor
