/- The plain law of an order and a limit behind a condition. No Go text is spoken of. -/
import Derived.Test.YteilkcdbdpkbfaaDoorQGroup
import Derived.Test.YteilkcdbdpkbfaaDoorLexMore
namespace Go.Proofs.YteilkcdbdpkbfaaDoor
open Go.RowKit
set_option linter.unusedVariables false
set_option linter.unusedSimpArgs false
/-- A number below 1000 in digits, as the law writes it. -/
def dgF : Nat → Nat → List UInt8 → List UInt8
  | 0, _, T => T
  | f + 1, n, T => if 0 < n ∨ T = [] then dgF f (n / 10) (UInt8.ofNat (48 + n % 10) :: T) else T
def dg (m : Nat) : List UInt8 := dgF 4 m []
def dgOk (m : Nat) : Bool := (dg m).all isDig && decide (0 < (dg m).length) && decide (decV (dg m) = m) && decide ((dg m).length ≤ 3)
def allOk : Nat → Bool
  | 0 => true
  | n + 1 => dgOk n && allOk n
theorem allOk_at : ∀ (n m : Nat), allOk n = true → m < n → dgOk m = true
  | 0, m, _, h => by omega
  | n + 1, m, h, hm => by
    unfold allOk at h
    rw [Bool.and_eq_true] at h
    by_cases e : m = n
    · rw [e]; exact h.1
    · exact allOk_at n m h.2 (by omega)
theorem all1000 : allOk 1000 = true := by kernel_rfl
theorem dg_ok (m : Nat) (h : m < 1000) : dgOk m = true := allOk_at 1000 m all1000 h
def wTok (t : List UInt8) : Tok := ⟨1, t, 0, 0⟩
def nTok (m : Nat) : Tok := ⟨2, dg m, (m : Int), 0⟩
theorem nTok_good (m : Nat) (h : m < 1000) : Good (nTok m) := by
  have hk := dg_ok m h
  simp only [dgOk, Bool.and_eq_true, decide_eq_true_eq, List.all_eq_true] at hk
  obtain ⟨⟨⟨h1, h2⟩, h3⟩, -⟩ := hk
  have hne : dg m ≠ [] := List.length_pos_iff.1 h2
  refine ⟨hne, fun b hb => isBl_dig (h1 b hb), ?_⟩
  show stepT (dg m) = .tok 2 (dg m).length (m : Int)
  rw [stepT_num h1 hne, h3, if_neg (by omega)]
/-- A text that is a word. -/
def wOk (t : List UInt8) : Bool := decide (0 < t.length) && t.all isLet
theorem wTok_good {t : List UInt8} (h : wOk t = true) : Good (wTok t) := by
  simp only [wOk, Bool.and_eq_true, decide_eq_true_eq, List.all_eq_true] at h
  obtain ⟨h1, h2⟩ := h
  refine ⟨List.length_pos_iff.1 h1, fun b hb => isBl_let (h2 b hb), ?_⟩
  show stepT t = .tok 1 t.length 0
  have hl : lets t = t.length := by
    have h3 := takeWhile_all_append isLet t [] h2 (.inl rfl)
    rw [List.append_nil] at h3
    unfold lets
    rw [h3]
  unfold stepT
  rw [hl, if_pos h1]
def sOrder : List UInt8 := [111, 114, 100, 101, 114]
def sDown : List UInt8 := [100, 111, 119, 110]
def sLimit : List UInt8 := [108, 105, 109, 105, 116]
/-- The signs behind the condition. -/
def tailT (F : List UInt8) (down : Bool) (m : Nat) : List Tok := if down then [wTok sOrder, wTok F, wTok sDown, wTok sLimit, nTok m] else [wTok sOrder, wTok F, wTok sLimit, nTok m]
def moreT : List Tok := [wTok [105, 100], ⟨3, [61], 0, 0⟩, ⟨2, [49], 1, 0⟩]
theorem tailT_good {F : List UInt8} (hF : wOk F = true) (down : Bool) {m : Nat} (hm : m < 1000) : ∀ t ∈ tailT F down m, Good t := by
  have h1 : Good (wTok sOrder) := wTok_good (by decide)
  have h2 : Good (wTok sDown) := wTok_good (by decide)
  have h3 : Good (wTok sLimit) := wTok_good (by decide)
  have h4 := wTok_good hF
  have h5 := nTok_good m hm
  intro t ht
  cases down <;> simp only [tailT, if_true, Bool.false_eq_true, if_false, List.mem_cons, List.not_mem_nil, or_false] at ht
  · rcases ht with rfl | rfl | rfl | rfl <;> assumption
  · rcases ht with rfl | rfl | rfl | rfl | rfl <;> assumption
theorem moreT_good : ∀ t ∈ moreT, Good t := by
  intro t ht
  simp only [moreT, List.mem_cons, List.not_mem_nil, or_false] at ht
  rcases ht with rfl | rfl | rfl
  · exact wTok_good (by decide)
  · exact ⟨by simp, by decide, rfl⟩
  · exact ⟨by simp, by decide, rfl⟩
theorem isT_tok (t : Tok) (L : List Tok) (b : ByteArray) : isT (t :: L) b = (t.str.toList == b.toList) := rfl
theorem beq_lists (a b : ByteArray) : (a.toList == b.toList) = (a.data.toList == b.data.toList) := by rw [ByteArray.toList_eq, ByteArray.toList_eq]
theorem isT_of (t : Tok) (L : List Tok) (b : ByteArray) : isT (t :: L) b = (t.text == b.data.toList) := by rw [isT_tok, beq_lists]; rfl
def tailU (F : List UInt8) (down : Bool) (m : Nat) : List UInt8 := joinL (tailT F down m)
theorem joinP_append : ∀ (A B : List Tok) (i : Nat), A ≠ [] → joinP i (A ++ B) = joinP i A ++ joinP (i + (joinL A).length + 1) B
  | [], B, i, h => absurd rfl h
  | [a], B, i, _ => by simp [joinP, joinL]
  | a :: b :: A, B, i, _ => by
    have := joinP_append (b :: A) B (i + a.text.length + 1) (by simp)
    simp only [List.cons_append] at this
    simp only [List.cons_append, joinP, joinL] at this ⊢
    rw [this, List.length_append, List.length_cons]
    congr 3
    congr 1
    omega
theorem joinL_append : ∀ (A B : List Tok), A ≠ [] → B ≠ [] → joinL (A ++ B) = joinL A ++ 32 :: joinL B
  | [], B, h, _ => absurd rfl h
  | [a], [], _, h => absurd rfl h
  | [a], b :: B, _, _ => rfl
  | a :: b :: A, B, _, hB => by
    have := joinL_append (b :: A) B (by simp) hB
    simp only [List.cons_append, joinL] at this ⊢
    rw [this]
    simp
theorem map_shift0 (L : List Tok) : L.map (Tok.shift 0) = L := by
  have : Tok.shift 0 = id := by funext t; rfl
  rw [this, List.map_id]
/-- Signs behind a condition, and what they are read as. -/
theorem tail_read {fin : Nat} {F : List UInt8} (hF : fieldB ⟨F.toArray⟩ = true) (down : Bool) (m i : Nat) (E : List Tok) (hE : isT E bDown = false) :
    orderP fin (joinP i (tailT F down m) ++ E) = .ok (⟨F.toArray⟩, down) (joinP (i + (joinL (tailT F down m)).length - (dg m).length - 1 - 5) [wTok sLimit, nTok m] ++ E) ∧
    ∀ j, limitP fin (joinP j [wTok sLimit, nTok m] ++ E) = .ok (m : Int) E := by
  constructor
  · cases down
    · have h1 : isT (joinP i (tailT F false m) ++ E) bOrder = true := by
        simp only [tailT, Bool.false_eq_true, if_false, joinP, List.cons_append]
        rw [isT_of]; rfl
      unfold orderP
      rw [if_pos h1]
      simp only [tailT, Bool.false_eq_true, if_false, joinP, List.cons_append, List.tail_cons]
      have h2 : ∀ (p : Nat) (X : List Tok), isT ({ wTok sLimit with pos := p } :: X) bDown = false := fun p X => by rw [isT_of]; rfl
      have h3 : fieldB (Tok.str { wTok F with pos := i + (wTok sOrder).text.length + 1 }) = true := hF
      rw [if_pos h3, h2]
      simp only [Bool.false_eq_true, if_false, PR.ok.injEq, List.nil_append]
      refine ⟨rfl, ?_⟩
      have e : i + (joinL [wTok sOrder, wTok F, wTok sLimit, nTok m]).length - (dg m).length - 1 - 5 = i + (wTok sOrder).text.length + 1 + (wTok F).text.length + 1 := by
        simp only [joinL, List.length_append, List.length_cons, wTok, nTok, sOrder, sLimit, List.length_nil]
        omega
      rw [e]
    · have h1 : isT (joinP i (tailT F true m) ++ E) bOrder = true := by
        simp only [tailT, if_true, joinP, List.cons_append]
        rw [isT_of]; rfl
      unfold orderP
      rw [if_pos h1]
      simp only [tailT, if_true, joinP, List.cons_append, List.tail_cons]
      have h2 : ∀ (p : Nat) (X : List Tok), isT ({ wTok sDown with pos := p } :: X) bDown = true := fun p X => by rw [isT_of]; rfl
      have h3 : fieldB (Tok.str { wTok F with pos := i + (wTok sOrder).text.length + 1 }) = true := hF
      rw [if_pos h3, h2]
      simp only [if_true, PR.ok.injEq, List.nil_append, List.tail_cons]
      refine ⟨rfl, ?_⟩
      have e : i + (joinL [wTok sOrder, wTok F, wTok sDown, wTok sLimit, nTok m]).length - (dg m).length - 1 - 5 = i + (wTok sOrder).text.length + 1 + (wTok F).text.length + 1 + (wTok sDown).text.length + 1 := by
        simp only [joinL, List.length_append, List.length_cons, wTok, nTok, sOrder, sLimit, sDown, List.length_nil]
        omega
      rw [e]
  · intro j
    have h1 : isT (joinP j [wTok sLimit, nTok m] ++ E) bLimit = true := by
      simp only [joinP, List.cons_append]
      rw [isT_of]; rfl
    unfold limitP
    rw [if_pos h1]
    simp only [joinP, List.cons_append, List.tail_cons, nTok, List.nil_append]
    rw [if_neg (by omega)]
    rfl
theorem part_nil (fin d : Nat) (n : NodeR) (R : List Tok) : partP fin d [] ≠ .ok n R := by
  cases d with
  | zero => simp [partP, failP]
  | succ d => simp [partP, isT, compareP, failP]
theorem orP_nil (fin d : Nat) (n : NodeR) (R : List Tok) : orP fin d [] ≠ .ok n R := by
  intro h
  unfold orP listP at h
  split at h
  · cases h
  · rename_i h1
    unfold andP listP at h1
    split at h1
    · cases h1
    · rename_i h2
      exact part_nil _ _ _ _ h2
/-- The plain law. -/
theorem tail_law {S : List UInt8} {q : QueryR} {a : Nat} (hp : parseP S = ⟨q, a, 0⟩) (ho : q.order = ⟨#[]⟩) (hl : q.limit < 0) (hS : S.length ≤ 3000) {F : List UInt8} (hF : fieldB ⟨F.toArray⟩ = true) (hw : wOk F = true) (hFl : F.length ≤ 7) (down : Bool) {m : Nat} (hm : m < 1000) :
    parseP (S ++ 32 :: joinL (tailT F down m)) = ⟨⟨q.whr, ⟨F.toArray⟩, down, (m : Int), q.count⟩, (S ++ 32 :: joinL (tailT F down m)).length, 0⟩ ∧
    ∃ z, parseP (S ++ 32 :: joinL (tailT F down m ++ moreT)) = ⟨z, (S ++ 32 :: joinL (tailT F down m)).length + 1, 41⟩ := by
  obtain ⟨-, hs, q', R, hq, hp'⟩ := parseP_ok (S := S) (by rw [hp])
  rw [hp] at hp'
  obtain ⟨rfl, -⟩ := (ParseR.mk.injEq .. ▸ hp' : q = q' ∧ a = S.length ∧ 0 = 0)
  obtain ⟨n, S1, o, T, l, h1, h2, h3, rfl, rfl⟩ := queryP_ok hq
  simp only at ho hl
  obtain ⟨rfl, rfl, rfl⟩ : S1 = [] ∧ o = (⟨#[]⟩, false) ∧ l = -1 := by
    rcases tail_ok h2 h3 with h | ⟨-, -, h | h⟩
    · exact h
    · exact absurd ho h
    · omega
  have hdg := dg_ok m hm
  simp only [dgOk, Bool.and_eq_true, decide_eq_true_eq] at hdg
  have hlen : (joinL (tailT F down m)).length ≤ 30 := by
    cases down <;> simp only [tailT, if_true, Bool.false_eq_true, if_false, joinL, List.length_append, List.length_cons, wTok, nTok, sOrder, sLimit, sDown, List.length_nil] <;> omega
  have hg := tailT_good hw down hm
  have hne : tailT F down m ≠ [] := by cases down <;> simp [tailT]
  have hC : (scanL S 0).toks ≠ [] := by
    intro e
    rw [e] at h1
    exact orP_nil _ _ _ _ h1
  have core : ∀ (fin : Nat) (E : List Tok), isT E bDown = false → isT (joinP (S.length + 1) (tailT F down m) ++ E) bAnd = false ∧ isT (joinP (S.length + 1) (tailT F down m) ++ E) bOr = false ∧
      queryP fin ((scanL S 0).toks ++ (joinP (S.length + 1) (tailT F down m) ++ E)) = endP fin ⟨n, ⟨F.toArray⟩, down, (m : Int), isT (scanL S 0).toks bCount⟩ E := by
    intro fin E hE
    have ha : isT (joinP (S.length + 1) (tailT F down m) ++ E) bAnd = false := by cases down <;> simp only [tailT, if_true, Bool.false_eq_true, if_false, joinP, List.cons_append] <;> rw [isT_of] <;> rfl
    have hr : isT (joinP (S.length + 1) (tailT F down m) ++ E) bOr = false := by cases down <;> simp only [tailT, if_true, Bool.false_eq_true, if_false, joinP, List.cons_append] <;> rw [isT_of] <;> rfl
    refine ⟨ha, hr, ?_⟩
    obtain ⟨r1, r2⟩ := tail_read (fin := fin) hF down m (S.length + 1) E hE
    generalize joinP (S.length + 1) (tailT F down m) ++ E = M at *
    have hx := orP_ext (k := 0) (D := False) S.length fin ha hr 32 32 (.inl rfl) _ n [] h1
    rw [map_shift0] at hx
    rcases hx with hx | ⟨hx, -⟩
    · have e1 : isT ((scanL S 0).toks ++ M) bCount = isT (scanL S 0).toks bCount := by
        have := isT_ne (M := M) (b := bCount) 0 hC
        rw [map_shift0] at this
        exact this
      have e2 : (if isT ((scanL S 0).toks ++ M) bCount then ((scanL S 0).toks ++ M).tail else (scanL S 0).toks ++ M) = (if isT (scanL S 0).toks bCount then (scanL S 0).toks.tail else (scanL S 0).toks) ++ M := by
        rw [e1]
        split
        · rw [List.tail_append_of_ne_nil hC]
        · rfl
      unfold queryP
      rw [e2, hx]
      simp only [List.map_nil, List.nil_append]
      rw [r1]
      simp only
      rw [r2]
      simp only
      rw [e1]
    · exact absurd hx id
  have hscan : ∀ E : List Tok, (∀ t ∈ E, Good t) → (scanL (S ++ 32 :: joinL (tailT F down m ++ E)) 0).err = 0 ∧ (scanL (S ++ 32 :: joinL (tailT F down m ++ E)) 0).toks = (scanL S 0).toks ++ (joinP (S.length + 1) (tailT F down m) ++ joinP (S.length + 1 + (joinL (tailT F down m)).length + 1) E) := by
    intro E hE
    have h5 := scanL_joins (tailT F down m ++ E) (0 + S.length + 1) (fun t ht => by
      rcases List.mem_append.1 ht with ht | ht
      · exact hg t ht
      · exact hE t ht)
    rw [scanL_begins S.length S _ 0 (Nat.le_refl _) hs, h5]
    have e : 0 + S.length + 1 = S.length + 1 := by omega
    rw [e, joinP_append _ _ _ hne]
    simp [Sc.cons]
  constructor
  · obtain ⟨s1, s2⟩ := hscan [] (by simp)
    rw [List.append_nil] at s1 s2
    have hlU : (S ++ 32 :: joinL (tailT F down m)).length = S.length + 1 + (joinL (tailT F down m)).length := by simp only [List.length_append, List.length_cons]; omega
    rw [parseP_of (by omega) s1, s2]
    have hc := (core (S ++ 32 :: joinL (tailT F down m)).length [] rfl).2.2
    rw [show joinP (S.length + 1 + (joinL (tailT F down m)).length + 1) [] = [] from rfl, hc]
    rfl
  · obtain ⟨s1, s2⟩ := hscan moreT moreT_good
    have hlU : (S ++ 32 :: joinL (tailT F down m)).length = S.length + 1 + (joinL (tailT F down m)).length := by simp only [List.length_append, List.length_cons]; omega
    have hlV : (S ++ 32 :: joinL (tailT F down m ++ moreT)).length = S.length + 1 + (joinL (tailT F down m)).length + 7 := by
      have e9 : (joinL moreT).length = 6 := rfl
      rw [joinL_append _ _ hne (by simp [moreT])]
      simp only [List.length_append, List.length_cons, e9]
      omega
    refine ⟨.zero, ?_⟩
    rw [parseP_of (by omega) s1, s2]
    have hb : isT (joinP (S.length + 1 + (joinL (tailT F down m)).length + 1) moreT) bDown = false := by
      simp only [moreT, joinP]
      rw [isT_of]; rfl
    have hc := (core (S ++ 32 :: joinL (tailT F down m ++ moreT)).length _ hb).2.2
    rw [hc, hlU]
    rfl
end Go.Proofs.YteilkcdbdpkbfaaDoor
