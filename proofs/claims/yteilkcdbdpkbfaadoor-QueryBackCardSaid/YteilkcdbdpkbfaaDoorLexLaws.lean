/- What signs of texts have in common: where they stand, texts with other blanks, two texts behind each other, signs written with blanks between. No Go text is spoken of. -/
import Derived.Test.YteilkcdbdpkbfaaDoorLexPlain
namespace Go.Proofs.YteilkcdbdpkbfaaDoor
open Go.RowKit
set_option linter.unusedVariables false
set_option linter.unusedSimpArgs false

theorem takeWhile_all_append (p : UInt8 → Bool) : ∀ (L R : List UInt8), (∀ b ∈ L, p b = true) → (R = [] ∨ p (R.headD 0) = false) → (L ++ R).takeWhile p = L
  | [], [], _, _ => rfl
  | [], r :: R, _, h => by
    rcases h with h | h
    · cases h
    · simp only [List.headD_cons] at h; simp [List.takeWhile_cons, h]
  | a :: l, R, hl, h => by
    have ha : p a = true := hl a (by simp)
    simp only [List.cons_append, List.takeWhile_cons, ha, if_true]
    rw [takeWhile_all_append p l R (fun b hb => hl b (by simp [hb])) h]
/-- What is no letter ahead of more. -/
theorem takeWhile_more (p : UInt8 → Bool) (R : List UInt8) (hR : p (R.headD 0) = false) : ∀ L : List UInt8, ((L ++ R).takeWhile p).length = (L.takeWhile p).length
  | [] => by
    cases R with
    | nil => rfl
    | cons r R => simp only [List.headD_cons] at hR; simp [List.takeWhile_cons, hR]
  | a :: l => by
    simp only [List.cons_append, List.takeWhile_cons]
    by_cases h : p a
    · simp [h, takeWhile_more p R hR l]
    · simp [h]

/-- Texts that a blank follows. -/
theorem hd_append (L R : List UInt8) (h : L ≠ []) : hd (L ++ R) = hd L := by
  cases L with
  | nil => exact absurd rfl h
  | cons a l => rfl
theorem drop1_append (L R : List UInt8) (h : L ≠ []) : (L ++ R).drop 1 = L.drop 1 ++ R := by
  cases L with
  | nil => exact absurd rfl h
  | cons a l => rfl
theorem minusN_append (L R : List UInt8) (h : L ≠ []) : minusN (L ++ R) = minusN L := by unfold minusN; rw [hd_append L R h]
theorem dropM_append (L R : List UInt8) (h : L ≠ []) : (L ++ R).drop (minusN L) = L.drop (minusN L) ++ R := by
  unfold minusN
  split
  · exact drop1_append L R h
  · rfl
/-- A text, and then a blank: it begins with the same sign. -/
theorem stepT_more (L R : List UInt8) (h : L ≠ []) : stepT (L ++ 32 :: R) = stepT L := by
  have e1 : lets (L ++ 32 :: R) = lets L := takeWhile_more isLet (32 :: R) (show isLet 32 = false by decide) L
  have e2 : digsM (L ++ 32 :: R) = digsM L := by
    unfold digsM
    rw [minusN_append L _ h, dropM_append L _ h]
    exact takeWhile_more isDig (32 :: R) (show isDig 32 = false by decide) _
  have e3 : ((L ++ 32 :: R).drop (minusN L)).take (digsM L) = (L.drop (minusN L)).take (digsM L) := by
    rw [dropM_append L _ h]
    exact List.take_append_of_le_length (digs_le _)
  have e4 : markN (L ++ 32 :: R) = markN L := by
    unfold markN
    rw [hd_append L _ h, drop1_append L _ h]
    cases hl : L.drop 1 with
    | nil => simp [hd]
    | cons a l => rfl
  unfold stepT
  rw [e1, e2, minusN_append L _ h, e3, e4]
theorem append_ne {L R : List UInt8} (h : L ≠ []) : L ++ R ≠ [] := by cases L <;> simp_all

/-- A text that can be cut, and then a blank and another one. -/
theorem scanL_begins : ∀ (f : Nat) (A B : List UInt8) (i : Nat), A.length ≤ f → (scanL A i).err = 0 → scanL (A ++ 32 :: B) i = Sc.cons (scanL A i).toks (scanL B (i + A.length + 1))
  | f, [], B, i, _, _ => by
    rw [List.nil_append, scanL_blank 32 B i (by decide), scanL_nil]
    exact (scanL_self B _).symm
  | 0, a :: A, B, i, hf, _ => by simp at hf
  | f + 1, a :: A, B, i, hf, he => by
    simp only [List.length_cons] at hf
    by_cases hb : isBl a = true
    · rw [List.cons_append, scanL_blank a _ i hb]
      rw [scanL_blank a A i hb] at he ⊢
      rw [scanL_begins f A B (i + 1) (by omega) he, List.length_cons]
      congr 2
      omega
    · have hb : isBl a = false := by simpa using hb
      cases hs : stepT (a :: A) with
      | bad e =>
        rw [scanL_bad a A i hb hs] at he
        have := stepT_err hs
        simp only at he
        omega
      | tok k n v =>
        obtain ⟨h0, h1⟩ := stepT_len (by simp) hs
        have hs2 : stepT (a :: (A ++ 32 :: B)) = .tok k n v := by rw [← List.cons_append, stepT_more _ _ (by simp)]; exact hs
        rw [List.cons_append, scanL_tok a _ i hb hs2, ← List.cons_append, List.take_append_of_le_length h1, List.drop_append_of_le_length h1]
        rw [scanL_tok a A i hb hs] at he ⊢
        have he2 : (scanL ((a :: A).drop n) (i + n)).err = 0 := by
          unfold Sc.cons at he
          split at he
          · assumption
          · exact he
        rw [scanL_begins f ((a :: A).drop n) B (i + n) (by rw [List.length_drop, List.length_cons]; omega) he2, Sc.cons_cons]
        have hl : i + n + ((a :: A).drop n).length + 1 = i + (a :: A).length + 1 := by rw [List.length_drop]; omega
        rw [hl]
        congr 1
        simp only [Sc.cons, he2, if_true]

/-- The same text further on. -/
def Tok.shift (k : Nat) (t : Tok) : Tok := { t with pos := t.pos + k }
def Sc.shift (k : Nat) (r : Sc) : Sc := ⟨r.toks.map (Tok.shift k), r.stop + k, r.err⟩
theorem Sc.shift_cons (k : Nat) (a : List Tok) (r : Sc) : Sc.shift k (Sc.cons a r) = Sc.cons (a.map (Tok.shift k)) (Sc.shift k r) := by
  unfold Sc.cons Sc.shift
  by_cases h : r.err = 0 <;> simp [h]
theorem scanF_shift (k : Nat) : ∀ (f : Nat) (L : List UInt8) (i : Nat), scanF f L (i + k) = Sc.shift k (scanF f L i)
  | 0, _, i => rfl
  | f + 1, [], i => rfl
  | f + 1, b :: l, i => by
    unfold scanF
    by_cases hb : isBl b
    · rw [if_pos hb, if_pos hb, ← scanF_shift k f l (i + 1)]
      congr 1
      omega
    · rw [if_neg hb, if_neg hb]
      cases hs : stepT (b :: l) with
      | bad e => rfl
      | tok kk n v =>
        simp only
        rw [Sc.shift_cons, ← scanF_shift k f _ (i + n)]
        congr 2
        omega
theorem scanL_shift (k : Nat) (L : List UInt8) (i : Nat) : scanL L (i + k) = Sc.shift k (scanL L i) := scanF_shift k _ L i

/-- The signs stand in the text, one behind the other. -/
def Placed (S : List UInt8) : Nat → List Tok → Prop
  | _, [] => True
  | i, t :: ts => i ≤ t.pos ∧ t.text ≠ [] ∧ t.pos + t.text.length ≤ S.length ∧ (S.drop t.pos).take t.text.length = t.text ∧ Placed S (t.pos + t.text.length) ts
theorem Placed.less {S : List UInt8} {i j : Nat} {l : List Tok} (h : Placed S j l) (hij : i ≤ j) : Placed S i l := by
  cases l with
  | nil => trivial
  | cons t ts => exact ⟨Nat.le_trans hij h.1, h.2⟩
theorem scanL_placed (S : List UInt8) : ∀ (f : Nat) (i : Nat), S.length ≤ f + i → Placed S i (scanL (S.drop i) i).toks
  | 0, i, h => by
    rw [List.drop_eq_nil_of_le (by omega), scanL_nil]
    trivial
  | f + 1, i, h => by
    cases hl : S.drop i with
    | nil => rw [scanL_nil]; trivial
    | cons b l =>
      have hl1 : S.drop (i + 1) = l := by rw [← List.drop_drop, hl]; rfl
      by_cases hb : isBl b = true
      · rw [scanL_blank b l i hb, ← hl1]
        exact (scanL_placed S f (i + 1) (by omega)).less (by omega)
      · have hb : isBl b = false := by simpa using hb
        cases hs : stepT (b :: l) with
        | bad e => rw [scanL_bad b l i hb hs]; trivial
        | tok k n v =>
          obtain ⟨h0, h1⟩ := stepT_len (by simp) hs
          rw [scanL_tok b l i hb hs]
          have hlen : (b :: l).length = S.length - i := by rw [← hl, List.length_drop]
          have hd : (b :: l).drop n = S.drop (i + n) := by rw [← hl, List.drop_drop]
          rw [hd]
          unfold Sc.cons
          split
          · have ht : ((b :: l).take n).length = n := List.length_take_of_le h1
            have := scanL_placed S f (i + n) (by omega)
            refine ⟨Nat.le_refl _, ?_, ?_, ?_, ?_⟩
            · intro hh
              simp only at hh
              rw [hh] at ht
              simp only [List.length_nil] at ht
              omega
            · simp only [ht]; omega
            · simp only [ht]; rw [hl]
            · simp only [ht]; exact this
          · trivial

/-- The bytes of a sign. -/
theorem hd_drop_digit {L : List UInt8} (h : 0 < digs L) : isDig (L.headD 0) = true := by
  unfold digs at h
  cases L with
  | nil => simp at h
  | cons a l =>
    by_cases ha : isDig a
    · exact ha
    · simp [List.takeWhile_cons, ha] at h
theorem isBl_let {b : UInt8} (h : isLet b = true) : isBl b = false := by
  simp [isLet, isBl] at *; omega
theorem isBl_dig {b : UInt8} (h : isDig b = true) : isBl b = false := by
  simp [isDig, isBl] at *; omega
/-- A sign by its own text: it is the same, whatever stands behind it, if that is a blank or nothing. -/
theorem stepT_text {L : List UInt8} {k n : Nat} {v : Int} (hL : L ≠ []) (h : stepT L = .tok k n v) :
    stepT (L.take n) = .tok k n v ∧ ∀ b ∈ L.take n, isBl b = false := by
  obtain ⟨h0, h1⟩ := stepT_len hL h
  obtain ⟨a, l, rfl⟩ : ∃ a l, L = a :: l := by cases L with
    | nil => exact absurd rfl hL
    | cons a l => exact ⟨a, l, rfl⟩
  unfold stepT at h
  split at h
  · rename_i hw
    injection h with e1 e2 e3
    subst e1 e2 e3
    have ht : (a :: l).take (lets (a :: l)) = (a :: l).takeWhile isLet := take_takeWhile isLet _
    have hall := all_takeWhile isLet (a :: l)
    rw [ht]
    have hle : lets ((a :: l).takeWhile isLet) = lets (a :: l) := by
      unfold lets
      have := takeWhile_all_append isLet ((a :: l).takeWhile isLet) [] hall (.inl rfl)
      rw [List.append_nil] at this
      rw [this]
    exact ⟨by unfold stepT; rw [hle, if_pos hw], fun b hb => isBl_let (hall b hb)⟩
  · rename_i hw
    split at h
    · rename_i hdg
      split at h
      · cases h
      · rename_i vv hv
        injection h with e1 e2 e3
        subst e1 e2 e3
        have hall : ∀ b ∈ ((a :: l).drop (minusN (a :: l))).takeWhile isDig, isDig b = true := all_takeWhile isDig _
        have htw : ((a :: l).drop (minusN (a :: l))).take (digsM (a :: l)) = ((a :: l).drop (minusN (a :: l))).takeWhile isDig := take_takeWhile isDig _
        have hdl : (((a :: l).drop (minusN (a :: l))).takeWhile isDig).length = digsM (a :: l) := rfl
        have htn : (a :: l).take (minusN (a :: l) + digsM (a :: l)) = (a :: l).take (minusN (a :: l)) ++ ((a :: l).drop (minusN (a :: l))).takeWhile isDig := by
          rw [List.take_add, htw]
        rw [htn]
        rw [htw] at hv
        generalize ((a :: l).drop (minusN (a :: l))).takeWhile isDig = D at *
        have hself : digs D = D.length := by
          unfold digs
          have := takeWhile_all_append isDig D [] hall (.inl rfl)
          rw [List.append_nil] at this
          rw [this]
        by_cases hm : hd (a :: l) = 45
        · have hmn : minusN (a :: l) = 1 := by unfold minusN; rw [if_pos hm]
          have ha : a.toNat = 45 := hm
          rw [hmn] at *
          simp only [List.take_succ_cons, List.take_zero, List.cons_append, List.nil_append]
          have hmm : minusN (a :: D) = 1 := by unfold minusN hd; simp only [List.headD_cons, ha, if_true]
          have hdm : digsM (a :: D) = digsM (a :: l) := by unfold digsM; rw [hmm]; simp only [List.drop_succ_cons, List.drop_zero]; rw [hself]; exact hdl
          refine ⟨?_, ?_⟩
          · unfold stepT
            have hl0 : ¬ 0 < lets (a :: D) := by rw [lets_pos]; simp [isLet, ha]
            rw [if_neg hl0, hdm, if_pos hdg, hmm]
            simp only [List.drop_succ_cons, List.drop_zero]
            rw [← hdl, List.take_length, hv]
          · intro b hb
            rcases List.mem_cons.1 hb with hb | hb
            · subst hb; simp [isBl, ha]
            · exact isBl_dig (hall b hb)
        · have hmn : minusN (a :: l) = 0 := by unfold minusN; rw [if_neg hm]
          rw [hmn] at *
          simp only [List.take_zero, List.nil_append]
          have hD : D ≠ [] := by
            intro hD
            rw [hD] at hdl
            simp only [List.length_nil] at hdl
            omega
          have hdg2 : isDig (D.headD 0) = true := by
            cases D with
            | nil => exact absurd rfl hD
            | cons x y => exact hall x (by simp)
          have hmm : minusN D = 0 := by
            unfold minusN hd
            simp only [isDig, Bool.and_eq_true, decide_eq_true_eq] at hdg2
            rw [if_neg (by omega)]
          have hdm : digsM D = digsM (a :: l) := by unfold digsM; rw [hmm]; simp only [List.drop_zero]; rw [hself]; exact hdl
          refine ⟨?_, fun b hb => isBl_dig (hall b hb)⟩
          unfold stepT
          have hl0 : ¬ 0 < lets D := by
            rw [lets_pos]
            simp only [isDig, isLet, Bool.and_eq_true, decide_eq_true_eq] at hdg2 ⊢
            omega
          rw [if_neg hl0, hdm, if_pos hdg, hmm]
          simp only [List.drop_zero]
          rw [← hdl, List.take_length, hv]
    · rename_i hdg
      split at h
      · rename_i hmk
        injection h with e1 e2 e3
        subst e1 e2 e3
        have hnl : ¬ isLet a = true := by rw [lets_pos] at hw; exact hw
        have hmm : minusN (a :: l) = 0 := by
          unfold minusN
          rw [if_neg]
          intro h45
          unfold markN at hmk
          simp only [h45] at hmk
          revert hmk
          split
          · rename_i hx; omega
          · split
            · rename_i hx; omega
            · omega
        have hnd : ¬ isDig a = true := by
          intro hh
          apply hdg
          unfold digsM
          rw [hmm, List.drop_zero, digs_pos]
          exact hh
        have key : ∀ D : List UInt8, D ≠ [] → hd D = a.toNat → markN D = markN (a :: l) → stepT D = .tok 3 (markN (a :: l)) 0 := by
          intro D hD h1 h2
          obtain ⟨x, D, rfl⟩ : ∃ x E, D = x :: E := by cases D with
            | nil => exact absurd rfl hD
            | cons x E => exact ⟨x, E, rfl⟩
          have hxa : x = a := UInt8.toNat_inj.1 h1
          subst hxa
          have hm2 : minusN (x :: D) = 0 := by
            unfold minusN at hmm ⊢
            exact hmm
          unfold stepT
          rw [if_neg (by rw [lets_pos]; exact hnl), if_neg (by unfold digsM; rw [hm2, List.drop_zero, digs_pos]; exact hnd), h2, if_pos hmk]
        have hmk' := hmk
        unfold markN at hmk'
        split at hmk'
        · rename_i h2
          have e2 : markN (a :: l) = 2 := by unfold markN; rw [if_pos h2]
          obtain ⟨c, l, rfl⟩ : ∃ c l', l = c :: l' := by
            cases l with
            | nil => simp [hd] at h2
            | cons c l' => exact ⟨c, l', rfl⟩
          rw [e2]
          simp only [List.take_succ_cons, List.take_zero]
          refine ⟨?_, ?_⟩
          · rw [← e2]
            refine key _ (by simp) rfl ?_
            rw [e2]; exact if_pos h2
          · intro b hb
            simp only [hd, List.headD_cons, List.drop_succ_cons, List.drop_zero] at h2
            simp only [List.mem_cons, List.not_mem_nil, or_false] at hb
            rcases hb with hb | hb <;> subst hb <;> simp [isBl] <;> omega
        · rename_i h2
          split at hmk'
          · rename_i h3
            have e2 : markN (a :: l) = 1 := by unfold markN; rw [if_neg h2, if_pos h3]
            rw [e2]
            simp only [List.take_succ_cons, List.take_zero]
            refine ⟨?_, ?_⟩
            · rw [← e2]
              refine key _ (by simp) rfl ?_
              rw [e2]; unfold markN
              rw [if_neg (by simp [hd])]
              exact if_pos h3
            · intro b hb
              simp only [hd, List.headD_cons] at h3
              simp only [List.mem_cons, List.not_mem_nil, or_false] at hb
              subst hb
              simp [isBl]; omega
          · omega
      · cases h

/-- A text with newlines in the place of blanks. -/
def nl (b : UInt8) : UInt8 := if b = 32 then 10 else b
theorem nl_of {b : UInt8} (h : isBl b = false) : nl b = b := by
  unfold nl
  rw [if_neg]
  rintro rfl
  exact absurd h (by decide)
theorem map_nl {L : List UInt8} (h : ∀ b ∈ L, isBl b = false) : L.map nl = L := by
  conv => rhs; rw [← List.map_id L]
  exact List.map_congr_left fun b hb => nl_of (h b hb)
theorem p_nl (p : UInt8 → Bool) (hp : p 32 = p 10) (b : UInt8) : p (nl b) = p b := by
  unfold nl
  split
  · rename_i h; rw [h, hp]
  · rfl
theorem takeWhile_nl (p : UInt8 → Bool) (hp : p 32 = p 10) : ∀ L : List UInt8, ((L.map nl).takeWhile p).length = (L.takeWhile p).length
  | [] => rfl
  | b :: l => by
    simp only [List.map_cons, List.takeWhile_cons, p_nl p hp]
    split
    · simp [takeWhile_nl p hp l]
    · rfl
theorem hd_nl (L : List UInt8) (c : Nat) (h1 : c ≠ 32) (h2 : c ≠ 10) : (hd (L.map nl) = c) = (hd L = c) := by
  cases L with
  | nil => rfl
  | cons b l =>
    simp only [hd, List.map_cons, List.headD_cons]
    unfold nl
    split
    · rename_i h
      subst h
      apply propext
      constructor <;> intro h
      · exact absurd h.symm h2
      · exact absurd h.symm h1
    · rfl
theorem stepT_nl {L : List UInt8} (hL : L ≠ []) : stepT (L.map nl) = stepT L := by
  have e0 : minusN (L.map nl) = minusN L := by unfold minusN; simp only [hd_nl L 45 (by decide) (by decide)]
  have e1 : lets (L.map nl) = lets L := takeWhile_nl isLet (by decide) L
  have e2 : digsM (L.map nl) = digsM L := by
    unfold digsM
    rw [e0, ← List.map_drop]
    exact takeWhile_nl isDig (by decide) _
  have e3 : ((L.map nl).drop (minusN L)).take (digsM L) = (L.drop (minusN L)).take (digsM L) := by
    rw [← List.map_drop, ← List.map_take]
    refine map_nl fun b hb => ?_
    unfold digsM digs at hb
    rw [take_takeWhile] at hb
    exact isBl_dig (all_takeWhile isDig _ b hb)
  have e4 : markN (L.map nl) = markN L := by
    unfold markN
    rw [← List.map_drop]
    simp only [hd_nl _ 33 (by decide) (by decide), hd_nl _ 60 (by decide) (by decide), hd_nl _ 62 (by decide) (by decide), hd_nl _ 61 (by decide) (by decide), hd_nl _ 40 (by decide) (by decide), hd_nl _ 41 (by decide) (by decide)]
  unfold stepT
  rw [e1, e2, e0, e3, e4]
theorem scanF_nl : ∀ (f : Nat) (L : List UInt8) (i : Nat), scanF f (L.map nl) i = scanF f L i
  | 0, _, _ => rfl
  | f + 1, [], _ => rfl
  | f + 1, b :: l, i => by
    have hs0 := stepT_nl (L := b :: l) (by simp)
    simp only [List.map_cons] at hs0 ⊢
    unfold scanF
    rw [p_nl isBl (by decide)]
    by_cases hb : isBl b
    · rw [if_pos hb, if_pos hb]
      exact scanF_nl f l (i + 1)
    · rw [if_neg hb, if_neg hb, hs0]
      cases hs : stepT (b :: l) with
      | bad e => rfl
      | tok k n v =>
        simp only
        have h2 := (stepT_text (by simp) hs).2
        rw [← List.map_cons (f := nl), ← List.map_take, map_nl h2, ← List.map_drop, scanF_nl f _ (i + n)]
theorem scan_nl (L : List UInt8) : scan (L.map nl) = scan L := by
  unfold scan scanL
  rw [List.length_map, scanF_nl]
end Go.Proofs.YteilkcdbdpkbfaaDoor
