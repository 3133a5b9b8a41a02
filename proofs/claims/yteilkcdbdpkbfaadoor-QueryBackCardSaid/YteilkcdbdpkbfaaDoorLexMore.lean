/- Signs written with blanks between are cut into the same signs; numbers written in digits. No Go text is spoken of. -/
import Derived.Test.YteilkcdbdpkbfaaDoorLexLaws
namespace Go.Proofs.YteilkcdbdpkbfaaDoor
open Go.RowKit
set_option linter.unusedVariables false
set_option linter.unusedSimpArgs false

/-- The texts with a blank between. -/
def joinL : List Tok → List UInt8
  | [] => []
  | [t] => t.text
  | t :: u :: ts => t.text ++ 32 :: joinL (u :: ts)
theorem joinL_snoc : ∀ (l : List Tok) (t : Tok), joinL (l ++ [t]) = if l = [] then t.text else joinL l ++ 32 :: t.text
  | [], t => rfl
  | [a], t => rfl
  | a :: b :: l, t => by
    have := joinL_snoc (b :: l) t
    simp only [List.cons_append] at this ⊢
    simp only [joinL, this]
    simp
/-- A sign by its own text. -/
def Good (t : Tok) : Prop := t.text ≠ [] ∧ (∀ b ∈ t.text, isBl b = false) ∧ stepT t.text = .tok t.kind t.text.length t.num
theorem scanF_good : ∀ (f : Nat) (L : List UInt8) (i : Nat), ∀ t ∈ (scanF f L i).toks, Good t
  | 0, _, _, t, h => by cases h
  | f + 1, [], _, t, h => by cases h
  | f + 1, b :: l, i, t, h => by
    unfold scanF at h
    by_cases hb : isBl b
    · rw [if_pos hb] at h
      exact scanF_good f l _ t h
    · rw [if_neg hb] at h
      cases hs : stepT (b :: l) with
      | bad e => rw [hs] at h; cases h
      | tok k n v =>
        rw [hs] at h
        simp only [Sc.cons] at h
        split at h
        · simp only [List.cons_append, List.nil_append, List.mem_cons] at h
          rcases h with h | h
          · subst h
            obtain ⟨h0, h1⟩ := stepT_len (by simp) hs
            obtain ⟨h2, h3⟩ := stepT_text (by simp) hs
            have hl : ((b :: l).take n).length = n := List.length_take_of_le h1
            refine ⟨fun e => ?_, h3, ?_⟩
            · simp only at e
              rw [e] at hl
              simp only [List.length_nil] at hl
              omega
            · simp only [hl]; exact h2
          · exact scanF_good f _ _ t h
        · cases h
theorem scanL_good (L : List UInt8) (i : Nat) : ∀ t ∈ (scanL L i).toks, Good t := scanF_good _ L i
/-- The signs, each behind the one before, with a blank between. -/
def joinP : Nat → List Tok → List Tok
  | _, [] => []
  | i, t :: ts => { t with pos := i } :: joinP (i + t.text.length + 1) ts
theorem joinP_length : ∀ (l : List Tok) (i : Nat), (joinP i l).length = l.length
  | [], _ => rfl
  | t :: ts, i => by simp [joinP, joinP_length ts]
theorem joinP_at : ∀ (l : List Tok) (i k : Nat) (h : k < (joinP i l).length) (h' : k < l.length), (joinP i l)[k].kind = l[k].kind ∧ (joinP i l)[k].text = l[k].text ∧ (joinP i l)[k].num = l[k].num
  | [], i, k, h, h' => by simp at h'
  | t :: ts, i, 0, h, h' => ⟨rfl, rfl, rfl⟩
  | t :: ts, i, k + 1, h, h' => joinP_at ts _ k _ (by simpa using h')
theorem scanL_joins : ∀ (l : List Tok) (i : Nat), (∀ t ∈ l, Good t) → scanL (joinL l) i = ⟨joinP i l, i + (joinL l).length, 0⟩
  | [], i, _ => rfl
  | [t], i, h => by
    obtain ⟨h0, h1, h2⟩ := h t (by simp)
    simp only [joinL, joinP]
    obtain ⟨b, l, e⟩ : ∃ b l, t.text = b :: l := by cases hh : t.text with
      | nil => exact absurd hh h0
      | cons b l => exact ⟨b, l, rfl⟩
    have hb := h1 b (by rw [e]; simp)
    have h3 := h2
    rw [e] at h3 ⊢
    rw [scanL_tok b l i hb h3, List.take_length, List.drop_length, scanL_nil, Sc.cons_nil, ← e]
  | t :: u :: ts, i, h => by
    obtain ⟨h0, h1, h2⟩ := h t (by simp)
    have ih := scanL_joins (u :: ts) (i + t.text.length + 1) (fun x hx => h x (by simp [hx]))
    have h3 : stepT (t.text ++ 32 :: joinL (u :: ts)) = .tok t.kind t.text.length t.num := by rw [stepT_more _ _ h0]; exact h2
    simp only [joinL]
    rw [show joinP i (t :: u :: ts) = { t with pos := i } :: joinP (i + t.text.length + 1) (u :: ts) from rfl]
    obtain ⟨b, l, e⟩ : ∃ b l, t.text = b :: l := by cases hh : t.text with
      | nil => exact absurd hh h0
      | cons b l => exact ⟨b, l, rfl⟩
    have hb := h1 b (by rw [e]; simp)
    have e2 : t.text ++ 32 :: joinL (u :: ts) = b :: (l ++ 32 :: joinL (u :: ts)) := by rw [e]; rfl
    rw [e2] at h3 ⊢
    rw [scanL_tok b _ i hb h3, ← e2, List.take_left, List.drop_left, scanL_blank 32 _ _ (by decide), ih]
    simp only [Sc.cons, if_true, List.cons_append, List.nil_append, List.length_append, List.length_cons]
    congr 1
    omega

/-- The number of digits. -/
def decV : List UInt8 → Nat
  | [] => 0
  | b :: l => (b.toNat - 48) * 10 ^ l.length + decV l
theorem decV_cons (b : UInt8) (l : List UInt8) : decV (b :: l) = (b.toNat - 48) * 10 ^ l.length + decV l := rfl
theorem decV_append : ∀ l m : List UInt8, decV (l ++ m) = decV l * 10 ^ m.length + decV m
  | [], m => by simp [decV]
  | b :: l, m => by
    rw [List.cons_append, decV_cons, decV_cons, decV_append l m, List.length_append, Nat.pow_add, Nat.add_mul, Nat.mul_assoc]
    omega
theorem valF_dec : ∀ (l : List UInt8) (a : Nat), valF l a = if l ≠ [] ∧ 1099511627776 < a * 10 ^ l.length + decV l then none else some (a * 10 ^ l.length + decV l)
  | [], a => by simp [valF, decV]
  | b :: l, a => by
    unfold valF
    have e : a * 10 ^ (b :: l).length + decV (b :: l) = (10 * a + (b.toNat - 48)) * 10 ^ l.length + decV l := by
      rw [List.length_cons, Nat.pow_succ, decV_cons, Nat.add_mul]
      have : a * (10 ^ l.length * 10) = 10 * a * 10 ^ l.length := by rw [Nat.mul_comm (10 ^ l.length) 10, ← Nat.mul_assoc, Nat.mul_comm a 10]
      omega
    rw [e]
    have hp : 0 < 10 ^ l.length := Nat.pow_pos (by omega)
    generalize 10 * a + (b.toNat - 48) = q
    by_cases hq : q > 1099511627776
    · rw [if_pos hq, if_pos]
      refine ⟨by simp, ?_⟩
      have := Nat.mul_le_mul hq hp
      have h2 : q ≤ q * 10 ^ l.length := Nat.le_mul_of_pos_right _ hp
      omega
    · rw [if_neg hq, valF_dec l q]
      cases l with
      | nil => simp [decV]; omega
      | cons c l => simp only [ne_eq, reduceCtorEq, not_false_eq_true, true_and]
theorem digs_all {S : List UInt8} (h : ∀ b ∈ S, isDig b = true) : digs S = S.length := by
  unfold digs
  have := takeWhile_all_append isDig S [] h (.inl rfl)
  rw [List.append_nil] at this
  rw [this]
theorem lets_dig {S : List UInt8} (h : ∀ b ∈ S, isDig b = true) : ¬ 0 < lets S := by
  rw [lets_pos]
  cases S with
  | nil => decide
  | cons b l =>
    have := h b (by simp)
    simp [isDig, isLet] at this ⊢
    omega
theorem stepT_num {S : List UInt8} (h : ∀ b ∈ S, isDig b = true) (h0 : S ≠ []) : stepT S = if 1099511627776 < decV S then .bad 2 else .tok 2 S.length (decV S : Int) := by
  have hm : minusN S = 0 := by
    unfold minusN
    rw [if_neg]
    cases S with
    | nil => exact absurd rfl h0
    | cons b l =>
      have := h b (by simp)
      simp [isDig, hd] at this ⊢
      omega
  have hdm : digsM S = S.length := by unfold digsM; rw [hm, List.drop_zero, digs_all h]
  have hl : 0 < S.length := List.length_pos_iff.2 h0
  unfold stepT
  rw [if_neg (lets_dig h), hdm, if_pos hl, hm, List.drop_zero, List.take_length, valF_dec S 0]
  simp only [ne_eq, h0, not_false_eq_true, true_and, Nat.zero_mul, Nat.zero_add]
  by_cases hq : 1099511627776 < decV S
  · rw [if_pos hq, if_pos hq]
  · rw [if_neg hq, if_neg hq]; rfl
theorem stepT_neg {S : List UInt8} (h : ∀ b ∈ S, isDig b = true) (h0 : S ≠ []) : stepT (45 :: S) = if 1099511627776 < decV S then .bad 2 else .tok 2 (1 + S.length) (-(decV S : Int)) := by
  have hm : minusN (45 :: S) = 1 := by unfold minusN; exact if_pos rfl
  have hdm : digsM (45 :: S) = S.length := by unfold digsM; rw [hm]; exact digs_all h
  have hl : 0 < S.length := List.length_pos_iff.2 h0
  unfold stepT
  rw [if_neg (by rw [lets_pos]; exact (show ¬ isLet 45 = true by decide)), hdm, if_pos hl, hm, List.drop_succ_cons, List.drop_zero, List.take_length, valF_dec S 0]
  simp only [ne_eq, h0, not_false_eq_true, true_and, Nat.zero_mul, Nat.zero_add]
  by_cases hq : 1099511627776 < decV S
  · rw [if_pos hq, if_pos hq]
  · rw [if_neg hq, if_neg hq]; rfl
def nines : List UInt8 := [57, 57, 57, 57, 57, 57, 57, 57, 57, 57, 57, 57, 57, 57]
theorem nines_dig : ∀ b ∈ nines, isDig b = true := by decide
theorem dec_nines (S : List UInt8) : 1099511627776 < decV (S ++ nines) := by
  rw [decV_append]
  have : decV nines = 99999999999999 := by decide
  omega
/-- A text of digits, with a minus ahead or not. -/
def signed (m : Bool) (S : List UInt8) : List UInt8 := if m then 45 :: S else S
def sgn (m : Bool) (v : Nat) : Int := if m then -(v : Int) else (v : Int)
theorem scanL_num (m : Bool) {S : List UInt8} (h : ∀ b ∈ S, isDig b = true) (h0 : S ≠ []) (hv : decV S ≤ 1099511627776) :
    scanL (signed m S) 0 = ⟨[⟨2, signed m S, sgn m (decV S), 0⟩], (signed m S).length, 0⟩ := by
  cases m
  · simp only [signed, sgn, Bool.false_eq_true, if_false]
    have hs := stepT_num h h0
    rw [if_neg (by omega)] at hs
    cases S with
    | nil => exact absurd rfl h0
    | cons b l =>
      rw [scanL_tok b l 0 (isBl_dig (h b (by simp))) hs, List.take_length, List.drop_length, scanL_nil, Sc.cons_nil]
      simp
  · simp only [signed, sgn, if_true]
    have hs := stepT_neg h h0
    rw [if_neg (by omega)] at hs
    rw [scanL_tok 45 S 0 (by decide) hs]
    have e : 1 + S.length = (45 :: S).length := by simp; omega
    rw [e, List.take_length, List.drop_length, scanL_nil, Sc.cons_nil]
    simp
theorem scanL_big (m : Bool) {S : List UInt8} (h : ∀ b ∈ S, isDig b = true) : scanL (120 :: 32 :: (signed m S ++ nines)) 0 = ⟨[], 2, 2⟩ := by
  have hx : stepT ([120] ++ 32 :: (signed m S ++ nines)) = .tok 1 1 0 := by
    rw [stepT_more _ _ (by simp)]
    rfl
  have hall : ∀ b ∈ S ++ nines, isDig b = true := fun b hb => by
    rcases List.mem_append.1 hb with hb | hb
    · exact h b hb
    · exact nines_dig b hb
  have hne : S ++ nines ≠ [] := by simp [nines]
  have hbig := dec_nines S
  have hx' : stepT (120 :: 32 :: (signed m S ++ nines)) = .tok 1 1 0 := hx
  rw [scanL_tok 120 _ 0 (by decide) hx', List.drop_succ_cons, List.drop_zero, scanL_blank 32 _ _ (by decide)]
  cases m
  · simp only [signed, Bool.false_eq_true, if_false]
    have hs := stepT_num hall hne
    rw [if_pos hbig] at hs
    obtain ⟨b, l, e⟩ : ∃ b l, S ++ nines = b :: l := by cases hh : S ++ nines with
      | nil => exact absurd hh hne
      | cons b l => exact ⟨b, l, rfl⟩
    rw [e] at hs hall ⊢
    rw [scanL_bad b l _ (isBl_dig (hall b (by simp))) hs]
    rfl
  · simp only [signed, if_true, List.cons_append]
    have hs := stepT_neg hall hne
    rw [if_pos hbig] at hs
    rw [scanL_bad 45 _ _ (by decide) hs]
    rfl
end Go.Proofs.YteilkcdbdpkbfaaDoor
