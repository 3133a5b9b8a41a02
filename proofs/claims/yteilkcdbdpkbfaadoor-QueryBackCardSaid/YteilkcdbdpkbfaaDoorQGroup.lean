/- The signs of a text in parentheses; the plain law of parentheses about a whole condition. No Go text is spoken of. -/
import Derived.Test.YteilkcdbdpkbfaaDoorQExt
import Derived.KernelRfl
namespace Go.Proofs.YteilkcdbdpkbfaaDoor
open Go.RowKit
set_option linter.unusedVariables false
set_option linter.unusedSimpArgs false
/-- A text, and then a mark that shuts: it begins with the same sign. -/
theorem stepT_shut (L : List UInt8) (h : L ≠ []) : stepT (L ++ [41]) = stepT L := by
  have e1 : lets (L ++ [41]) = lets L := takeWhile_more isLet [41] (show isLet 41 = false by decide) L
  have e2 : digsM (L ++ [41]) = digsM L := by
    unfold digsM
    rw [minusN_append L _ h, dropM_append L _ h]
    exact takeWhile_more isDig [41] (show isDig 41 = false by decide) _
  have e3 : ((L ++ [41]).drop (minusN L)).take (digsM L) = (L.drop (minusN L)).take (digsM L) := by
    rw [dropM_append L _ h]
    exact List.take_append_of_le_length (digs_le _)
  have e4 : markN (L ++ [41]) = markN L := by
    unfold markN
    rw [hd_append L _ h, drop1_append L _ h]
    cases hl : L.drop 1 with
    | nil => simp [hd]
    | cons a l => rfl
  unfold stepT
  rw [e1, e2, minusN_append L _ h, e3, e4]
theorem scanL_shut : ∀ (f : Nat) (A : List UInt8) (i : Nat), A.length ≤ f → (scanL A i).err = 0 → scanL (A ++ [41]) i = ⟨(scanL A i).toks ++ [⟨3, [41], 0, i + A.length⟩], i + A.length + 1, 0⟩
  | f, [], i, _, _ => by
    rw [List.nil_append, scanL_tok 41 [] i (by decide) (show stepT [41] = .tok 3 1 0 from rfl), scanL_nil]
    rfl
  | 0, a :: A, i, hf, _ => by simp at hf
  | f + 1, a :: A, i, hf, he => by
    simp only [List.length_cons] at hf
    by_cases hb : isBl a = true
    · rw [List.cons_append, scanL_blank a _ i hb]
      rw [scanL_blank a A i hb] at he ⊢
      rw [scanL_shut f A (i + 1) (by omega) he, List.length_cons]
      rw [show i + 1 + A.length = i + (A.length + 1) from by omega]
    · have hb : isBl a = false := by simpa using hb
      cases hs : stepT (a :: A) with
      | bad e =>
        rw [scanL_bad a A i hb hs] at he
        have := stepT_err hs
        simp only at he
        omega
      | tok k n v =>
        obtain ⟨h0, h1⟩ := stepT_len (by simp) hs
        have hs2 : stepT (a :: (A ++ [41])) = .tok k n v := by rw [← List.cons_append, stepT_shut _ (by simp)]; exact hs
        rw [List.cons_append, scanL_tok a _ i hb hs2, ← List.cons_append, List.take_append_of_le_length h1, List.drop_append_of_le_length h1]
        rw [scanL_tok a A i hb hs] at he ⊢
        have he2 : (scanL ((a :: A).drop n) (i + n)).err = 0 := by
          unfold Sc.cons at he
          split at he
          · assumption
          · exact he
        rw [scanL_shut f ((a :: A).drop n) (i + n) (by rw [List.length_drop, List.length_cons]; omega) he2]
        have hl : i + n + ((a :: A).drop n).length = i + (a :: A).length := by rw [List.length_drop]; omega
        rw [hl]
        simp [Sc.cons, he2]
theorem toList_injG {a b : ByteArray} (h : a.toList = b.toList) : a = b := by
  apply ByteArray.ext
  apply Array.ext'
  simpa [ByteArray.toList_eq] using h
def tOpen (i : Nat) : Tok := ⟨3, [40], 0, i⟩
def tShut (i : Nat) : Tok := ⟨3, [41], 0, i⟩
theorem stepT_open (l : List UInt8) : stepT (40 :: l) = .tok 3 1 0 := by
  unfold stepT
  have h1 : lets (40 :: l) = 0 := by simp [lets, List.takeWhile_cons, show isLet 40 = false from by decide]
  have h2 : minusN (40 :: l) = 0 := by simp [minusN, hd]
  have h3 : digsM (40 :: l) = 0 := by
    unfold digsM
    rw [h2]
    simp [digs, List.takeWhile_cons, show isDig 40 = false from by decide]
  have h4 : markN (40 :: l) = 1 := by simp [markN, hd]
  rw [h1, h3, h4]
  simp
/-- The signs of a text in parentheses. -/
theorem scanL_wrap (S : List UInt8) (i : Nat) (h : (scanL S i).err = 0) : (scanL (40 :: (S ++ [41])) i).toks = tOpen i :: ((scanL S i).toks.map (Tok.shift 1) ++ [tShut (i + 1 + S.length)]) ∧ (scanL (40 :: (S ++ [41])) i).err = 0 := by
  have h1 : scanL S (i + 1) = Sc.shift 1 (scanL S i) := scanL_shift 1 S i
  have h2 : (scanL S (i + 1)).err = 0 := by rw [h1]; exact h
  rw [scanL_tok 40 (S ++ [41]) i (by decide) (stepT_open _)]
  simp only [List.drop_succ_cons, List.drop_zero, List.take_succ_cons, List.take_zero]
  rw [scanL_shut _ S (i + 1) (Nat.le_refl _) h2, h1]
  simp [Sc.cons, Sc.shift, tOpen, tShut]

/-- What is wrong is told by a number from 41 on. -/
def BadHi (part : List Tok → PR NodeR) : Prop := ∀ L e p, part L = .bad e p → 41 ≤ e
theorem failP_hi {α : Type} {fin e : Nat} {L : List Tok} {e1 p1 : Nat} (he : 41 ≤ e) (h : failP (α := α) fin e L = .bad e1 p1) : 41 ≤ e1 := by
  unfold failP at h
  simp only [PR.bad.injEq] at h
  rw [← h.1]
  unfold failE
  split
  · split <;> omega
  · exact he
theorem moreP_hi {b : ByteArray} {part : List Tok → PR NodeR} (hp : BadHi part) : ∀ (f : Nat) (L : List Tok) (acc : List NodeR) (e p : Nat), moreP b part f L acc = .bad e p → 41 ≤ e
  | 0, L, acc, e, p, h => by simp [moreP] at h
  | f + 1, L, acc, e, p, h => by
    unfold moreP at h
    split at h
    · split at h
      · exact moreP_hi hp f _ _ e p h
      · rename_i h1
        cases h
        exact hp _ _ _ h1
    · cases h
theorem listP_hi {k : Int} {b : ByteArray} {part : List Tok → PR NodeR} (hp : BadHi part) : BadHi (listP k b part) := by
  intro L e p h
  unfold listP at h
  split at h
  · rename_i h1
    cases h
    exact hp _ _ _ h1
  · split at h
    · split at h
      · rename_i h1
        cases h
        exact moreP_hi hp _ _ _ _ _ h1
      · cases h
    · cases h
theorem compareP_hi (fin : Nat) : BadHi (compareP fin) := by
  intro L e p h
  unfold compareP at h
  split at h
  · exact failP_hi (by omega) h
  · split at h
    · split at h
      · exact failP_hi (by omega) h
      · split at h
        · exact failP_hi (by omega) h
        · split at h
          · split at h
            · exact failP_hi (by omega) h
            · split at h
              · exact failP_hi (by omega) h
              · split at h
                · exact failP_hi (by omega) h
                · cases h
          · exact failP_hi (by omega) h
    · exact failP_hi (by omega) h
theorem nearP_hi (fin : Nat) : BadHi (nearP fin) := by
  intro L e p h
  unfold nearP at h
  split at h
  · exact failP_hi (by omega) h
  · split at h
    · exact failP_hi (by omega) h
    · split at h
      · cases h
      · exact failP_hi (by omega) h
theorem partP_hi (fin : Nat) : ∀ d, BadHi (partP fin d)
  | 0, L, e, p, h => failP_hi (e := 44) (by omega) h
  | d + 1, L, e, p, h => by
    unfold partP at h
    split at h
    · split at h
      · cases h
      · rename_i h1
        cases h
        exact partP_hi fin d _ _ _ h1
    · split at h
      · cases h
      · split at h
        · split at h
          · split at h
            · cases h
            · exact failP_hi (by omega) h
          · rename_i h1
            cases h
            exact listP_hi (listP_hi (partP_hi fin d)) _ _ _ h1
        · split at h
          · exact nearP_hi fin _ _ _ h
          · exact compareP_hi fin _ _ _ h
theorem orP_hi (fin d : Nat) : BadHi (orP fin d) := listP_hi (listP_hi (partP_hi fin d))
theorem queryP_hi {fin : Nat} {L : List Tok} {e p : Nat} (h : queryP fin L = .bad e p) : 41 ≤ e := by
  unfold queryP at h
  split at h
  · rename_i h1
    cases h
    exact orP_hi fin 32 _ _ _ h1
  · split at h
    · rename_i h1
      cases h
      unfold orderP at h1
      split at h1
      · split at h1
        · exact failP_hi (by omega) h1
        · split at h1
          · cases h1
          · exact failP_hi (by omega) h1
      · cases h1
    · split at h
      · rename_i h1
        cases h
        unfold limitP at h1
        split at h1
        · split at h1
          · exact failP_hi (by omega) h1
          · split at h1
            · exact failP_hi (by omega) h1
            · split at h1
              · cases h1
              · exact failP_hi (by omega) h1
        · cases h1
      · unfold endP at h
        split at h
        · cases h
        · exact failP_hi (by omega) h
/-- A text that is read. -/
theorem parseP_ok {S : List UInt8} (h : (parseP S).e = 0) : S.length ≤ 4096 ∧ (scanL S 0).err = 0 ∧ ∃ q R, queryP S.length (scanL S 0).toks = .ok q R ∧ parseP S = ⟨q, S.length, 0⟩ := by
  unfold parseP at h ⊢
  by_cases h1 : 4096 < S.length
  · rw [if_pos h1] at h; cases h
  · rw [if_neg h1] at h ⊢
    by_cases h2 : (scanL S 0).err = 0
    · rw [if_neg (by simpa using h2)] at h ⊢
      cases hq : queryP S.length (scanL S 0).toks with
      | ok q R => exact ⟨by omega, h2, q, R, rfl, rfl⟩
      | bad e p =>
        rw [hq] at h
        have := queryP_hi hq
        simp only at h
        omega
    · rw [if_pos h2] at h
      simp only at h
      exact absurd h h2
theorem parseP_of {S : List UInt8} (h1 : S.length ≤ 4096) (h2 : (scanL S 0).err = 0) : parseP S = (match queryP S.length (scanL S 0).toks with | .ok q _ => ⟨q, S.length, 0⟩ | .bad e p => ⟨.zero, p, e⟩) := by
  unfold parseP
  rw [if_neg (by omega), if_neg (by simpa using h2)]
  rfl
/-- A query that is read: what it is made of. -/
theorem queryP_ok {fin : Nat} {L : List Tok} {q : QueryR} {R : List Tok} (h : queryP fin L = .ok q R) : ∃ n S o T l, orP fin 32 (if isT L bCount then L.tail else L) = .ok n S ∧ orderP fin S = .ok o T ∧ limitP fin T = .ok l [] ∧ q = ⟨n, o.1, o.2, l, isT L bCount⟩ ∧ R = [] := by
  unfold queryP at h
  split at h
  · cases h
  · rename_i n S h1
    split at h
    · cases h
    · rename_i o T h2
      split at h
      · cases h
      · rename_i l U h3
        unfold endP at h
        split at h
        · cases h
          exact ⟨n, S, o, T, l, h1, h2, h3, rfl, rfl⟩
        · simp [failP] at h
/-- Nothing, or an order, or a limit. -/
theorem tail_ok {fin : Nat} {S : List Tok} {o : ByteArray × Bool} {T : List Tok} {l : Int} (h2 : orderP fin S = .ok o T) (h3 : limitP fin T = .ok l []) :
    (S = [] ∧ o = (⟨#[]⟩, false) ∧ l = -1) ∨ (isT S bShut = false ∧ S ≠ [] ∧ (o.1 ≠ ⟨#[]⟩ ∨ 0 ≤ l)) := by
  have he : fieldB ⟨#[]⟩ = false := by kernel_rfl
  unfold orderP at h2
  split at h2
  · rename_i h1
    obtain ⟨t, l1, rfl⟩ := isT_some h1
    right
    refine ⟨?_, by simp, ?_⟩
    · simp only [isT, beq_iff_eq] at h1 ⊢
      rw [h1]
      kernel_rfl
    · left
      split at h2
      · simp [failP] at h2
      · split at h2
        · rename_i h4
          cases h2
          intro e
          simp only at e
          rw [e, he] at h4
          cases h4
        · simp [failP] at h2
  · cases h2
    unfold limitP at h3
    split at h3
    · rename_i h1
      obtain ⟨t, l1, rfl⟩ := isT_some h1
      right
      refine ⟨?_, by simp, ?_⟩
      · simp only [isT, beq_iff_eq] at h1 ⊢
        rw [h1]
        kernel_rfl
      · right
        split at h3
        · simp [failP] at h3
        · split at h3
          · simp [failP] at h3
          · split at h3
            · cases h3
              omega
            · simp [failP] at h3
    · cases h3
      left
      exact ⟨rfl, rfl, rfl⟩
theorem listP_bad {k : Int} {b : ByteArray} {part : List Tok → PR NodeR} {L : List Tok} {e p : Nat} (h : part L = .bad e p) : listP k b part L = .bad e p := by
  unfold listP
  rw [h]
theorem listP_one {k : Int} {b : ByteArray} {part : List Tok → PR NodeR} {L : List Tok} {n : NodeR} (h : part L = .ok n []) : listP k b part L = .ok n [] := by
  unfold listP
  rw [h]
  simp [isT]
theorem isT_open (i : Nat) (L : List Tok) (b : ByteArray) : isT (tOpen i :: L) b = (bOpen.toList == b.toList) := rfl
theorem isT_shut (i : Nat) (L : List Tok) (b : ByteArray) : isT (tShut i :: L) b = (bShut.toList == b.toList) := rfl
theorem isT_count (i : Nat) (L : List Tok) (b : ByteArray) : isT (⟨1, [99, 111, 117, 110, 116], 0, i⟩ :: L) b = (bCount.toList == b.toList) := rfl
theorem part_open (fin d i : Nat) (L : List Tok) : partP fin (d + 1) (tOpen i :: L) = (match orP fin d L with | .ok n R => if isT R bShut then .ok n R.tail else failP fin 41 R | .bad e p => .bad e p) := by
  have h1 : isT (tOpen i :: L) bNot = false := by rw [isT_open]; kernel_rfl
  have h2 : isT (tOpen i :: L) bAll = false := by rw [isT_open]; kernel_rfl
  have h3 : isT (tOpen i :: L) bOpen = true := by rw [isT_open]; kernel_rfl
  rw [partP]
  simp only [h1, h2, h3, Bool.false_eq_true, if_false, if_true, List.tail_cons]
  rfl
/-- A condition in parentheses. -/
theorem wrap_or {fin fin' i j : Nat} {L R : List Tok} {n : NodeR} (h : orP fin 32 L = .ok n R) (hR : R = [] ∨ isT R bShut = false) :
    (R = [] ∧ orP fin' 32 (tOpen i :: (L.map (Tok.shift 1) ++ [tShut j])) = .ok n []) ∨
    (∃ p, orP fin' 32 (tOpen i :: (L.map (Tok.shift 1) ++ [tShut j])) = .bad 44 p) ∨
    (R ≠ [] ∧ ∃ p, orP fin' 32 (tOpen i :: (L.map (Tok.shift 1) ++ [tShut j])) = .bad 41 p) := by
  have ha : isT [tShut j] bAnd = false := by rw [isT_shut]; kernel_rfl
  have ho : isT [tShut j] bOr = false := by rw [isT_shut]; kernel_rfl
  have hs : isT [tShut j] bShut = true := by rw [isT_shut]; kernel_rfl
  rcases orP_ext (k := 1) (D := True) fin fin' ha ho 32 31 (.inr ⟨rfl, trivial⟩) L n R h with h1 | ⟨-, p, h1⟩
  · rcases hR with rfl | hR
    · left
      refine ⟨rfl, listP_one (listP_one ?_)⟩
      rw [part_open, h1]
      simp [hs]
    · have hne : R ≠ [] ∨ R = [] := by cases R <;> simp
      rcases hne with hne | rfl
      · right; right
        refine ⟨hne, ?_⟩
        obtain ⟨r, R1, rfl⟩ : ∃ r R1, R = r :: R1 := by cases R with | nil => exact absurd rfl hne | cons r R1 => exact ⟨r, R1, rfl⟩
        refine ⟨r.pos + 1, listP_bad (listP_bad ?_)⟩
        rw [part_open, h1]
        have hx : isT ((r :: R1).map (Tok.shift 1) ++ [tShut j]) bShut = false := by rw [isT_ne 1 (by simp)]; exact hR
        simp only [hx, Bool.false_eq_true, if_false]
        rfl
      · left
        refine ⟨rfl, listP_one (listP_one ?_)⟩
        rw [part_open, h1]
        simp [hs]
  · right; left
    refine ⟨p, listP_bad (listP_bad ?_)⟩
    rw [part_open, h1]
/-- The signs of a condition that begins with 'count', in parentheses: no condition. -/
theorem wrap_count {fin i j : Nat} {t : Tok} {L : List Tok} (h : isT [t] bCount = true) : ∃ p, orP fin 32 (tOpen i :: ((t :: L).map (Tok.shift 1) ++ [tShut j])) = .bad 41 p := by
  have e : t.str.toList = bCount.toList := by simpa [isT] using h
  have e2 : (t.shift 1).str = bCount := by
    rw [str_shift]
    exact toList_injG e
  have hf : fieldB bCount = false := by kernel_rfl
  refine ⟨t.pos + 1, listP_bad (listP_bad ?_)⟩
  rw [part_open]
  have hp : orP fin 31 ((t :: L).map (Tok.shift 1) ++ [tShut j]) = .bad 41 (t.pos + 1) := by
    refine listP_bad (listP_bad ?_)
    have k : ∀ b : ByteArray, isT ((t :: L).map (Tok.shift 1) ++ [tShut j]) b = (bCount.toList == b.toList) := fun b => by
      simp only [List.map_cons, List.cons_append, isT]
      rw [e2]
    rw [partP]
    simp only [k]
    rw [show (bCount.toList == bNot.toList) = false from by kernel_rfl, show (bCount.toList == bAll.toList) = false from by kernel_rfl, show (bCount.toList == bOpen.toList) = false from by kernel_rfl, show (bCount.toList == bOverlaps.toList) = false from by kernel_rfl, show (bCount.toList == bBefore.toList) = false from by kernel_rfl, show (bCount.toList == bAfter.toList) = false from by kernel_rfl]
    simp only [Bool.false_eq_true, if_false, Bool.or_self, List.map_cons, List.cons_append]
    unfold compareP
    simp only [e2, hf, Bool.false_eq_true, if_false]
    rfl
  rw [hp]
def headG (c : Bool) : List UInt8 := if c then [99, 111, 117, 110, 116, 32] else []
def tCount (i : Nat) : Tok := ⟨1, [99, 111, 117, 110, 116], 0, i⟩
theorem scan_count (S : List UInt8) : scanL (99 :: 111 :: 117 :: 110 :: 116 :: 32 :: S) 0 = Sc.cons [tCount 0] (scanL S 6) := by
  have h := scanL_begins 5 [99, 111, 117, 110, 116] S 0 (by decide) (by decide)
  exact h
theorem Sc.cons_errG {a : List Tok} {r : Sc} (h : (Sc.cons a r).err = 0) : r.err = 0 ∧ (Sc.cons a r).toks = a ++ r.toks := by
  unfold Sc.cons at h ⊢
  split at h
  · rename_i h1
    rw [if_pos h1]
    exact ⟨h1, rfl⟩
  · rename_i h1
    exact absurd h h1
theorem queryP_fail {fin : Nat} {L : List Tok} {e p : Nat} (h : orP fin 32 (if isT L bCount then L.tail else L) = .bad e p) : queryP fin L = .bad e p := by
  unfold queryP
  rw [h]
theorem queryP_plain {fin : Nat} {L : List Tok} {n : NodeR} (h : orP fin 32 (if isT L bCount then L.tail else L) = .ok n []) : queryP fin L = .ok ⟨n, ⟨#[]⟩, false, -1, isT L bCount⟩ [] := by
  unfold queryP
  rw [h]
  rfl
/-- What is said of the two readings. -/
def GroupOk (c : Bool) (p q : ParseR) : Prop := p.e ≠ 0 ∨ (q.e = 0 ∧ p.q = q.q) ∨ (q.e ≠ 0 ∧ (p.q.order ≠ ⟨#[]⟩ ∨ 0 ≤ p.q.limit ∨ q.e = 44 ∨ q.e = 2 ∨ (p.q.count = true ∧ c = false)))
theorem group_core {fin fin' i j : Nat} {L : List Tok} {q : QueryR} {R : List Tok} {c : Bool} {C : List Tok} (hA : queryP fin (C ++ L) = .ok q R)
    (hC : (c = true ∧ C = [tCount 0]) ∨ (c = false ∧ C = [])) {r : ParseR} (hr : r = (match queryP fin' (C ++ tOpen i :: (L.map (Tok.shift 1) ++ [tShut j])) with | .ok q _ => ⟨q, fin', 0⟩ | .bad e p => ⟨.zero, p, e⟩)) :
    (r.e = 0 ∧ q = r.q) ∨ (r.e ≠ 0 ∧ (q.order ≠ ⟨#[]⟩ ∨ 0 ≤ q.limit ∨ r.e = 44 ∨ r.e = 2 ∨ (q.count = true ∧ c = false))) := by
  have ho : ∀ X, isT (tOpen i :: X) bCount = false := fun X => by rw [isT_open]; kernel_rfl
  have hc : ∀ X, isT (tCount 0 :: X) bCount = true := fun X => by unfold tCount; rw [isT_count]; kernel_rfl
  obtain ⟨n, S, o, T, l, h1, h2, h3, rfl, -⟩ := queryP_ok hA
  have htail := tail_ok h2 h3
  have main : ∀ (X : List Tok) (k : Bool), isT X bCount = k → (if isT X bCount then X.tail else X) = tOpen i :: (L.map (Tok.shift 1) ++ [tShut j]) → orP fin 32 L = .ok n S → X = (C ++ tOpen i :: (L.map (Tok.shift 1) ++ [tShut j])) → isT (C ++ L) bCount = k →
      (r.e = 0 ∧ (⟨n, o.1, o.2, l, isT (C ++ L) bCount⟩ : QueryR) = r.q) ∨ (r.e ≠ 0 ∧ (o.1 ≠ ⟨#[]⟩ ∨ 0 ≤ l ∨ r.e = 44 ∨ r.e = 2 ∨ (isT (C ++ L) bCount = true ∧ c = false))) := by
    intro X k hk hX hL hXC hCL
    rw [← hXC] at hr
    have hS : S = [] ∨ isT S bShut = false := by
      rcases htail with ⟨rfl, -⟩ | ⟨h, -⟩
      · exact .inl rfl
      · exact .inr h
    rcases wrap_or (fin' := fin') (i := i) (j := j) hL hS with ⟨rfl, h4⟩ | ⟨p, h4⟩ | ⟨hne, p, h4⟩
    · rw [queryP_plain (by rw [hX]; exact h4)] at hr
      rcases htail with ⟨-, rfl, rfl⟩ | ⟨-, h, -⟩
      · left
        subst hr
        rw [hCL, hk]
        exact ⟨rfl, rfl⟩
      · exact absurd rfl h
    · rw [queryP_fail (by rw [hX]; exact h4)] at hr
      subst hr
      right
      exact ⟨(by decide : (44 : Nat) ≠ 0), .inr (.inr (.inl rfl))⟩
    · rw [queryP_fail (by rw [hX]; exact h4)] at hr
      subst hr
      right
      refine ⟨(by decide : (41 : Nat) ≠ 0), ?_⟩
      rcases htail with ⟨h, -, -⟩ | ⟨-, -, h | h⟩
      · exact absurd h hne
      · exact .inl h
      · exact .inr (.inl h)
  rcases hC with ⟨rfl, rfl⟩ | ⟨rfl, rfl⟩
  · have e1 : (if isT ([tCount 0] ++ L) bCount then ([tCount 0] ++ L).tail else ([tCount 0] ++ L)) = L := by
      rw [List.cons_append, hc]
      rfl
    rw [e1] at h1
    exact main _ true (hc _) (by rw [hc]; rfl) h1 rfl (hc _)
  · rw [List.nil_append] at h1
    cases hb : isT L bCount with
    | false =>
      rw [hb] at h1
      exact main _ false (ho _) (by rw [ho]; rfl) h1 rfl hb
    | true =>
      obtain ⟨t, L1, rfl⟩ := isT_some hb
      obtain ⟨p, hp⟩ := wrap_count (fin := fin') (i := i) (j := j) (t := t) (L := L1) hb
      rw [List.nil_append, queryP_fail (by rw [ho]; exact hp)] at hr
      subst hr
      right
      exact ⟨(by decide : (41 : Nat) ≠ 0), .inr (.inr (.inr (.inr ⟨hb, rfl⟩)))⟩
/-- The plain law. -/
theorem group_law (c : Bool) (S : List UInt8) : GroupOk c (parseP (headG c ++ S)) (parseP (headG c ++ [40] ++ S ++ [41])) := by
  unfold GroupOk
  by_cases he : (parseP (headG c ++ S)).e = 0
  · right
    obtain ⟨hl, hs, q, R, hq, hp⟩ := parseP_ok he
    by_cases hl2 : 4096 < (headG c ++ [40] ++ S ++ [41]).length
    · right
      have e2 : parseP (headG c ++ [40] ++ S ++ [41]) = ⟨.zero, 0, 2⟩ := by unfold parseP; rw [if_pos hl2]
      rw [e2]
      exact ⟨by decide, .inr (.inr (.inr (.inl rfl)))⟩
    · rw [hp]
      cases c with
      | false =>
        have eB : headG false ++ [40] ++ S ++ [41] = 40 :: (S ++ [41]) := by simp [headG]
        rw [show headG false ++ S = S from rfl] at hs hq
        obtain ⟨w1, w2⟩ := scanL_wrap S 0 hs
        have hpB := parseP_of (S := headG false ++ [40] ++ S ++ [41]) (by omega) (by rw [eB]; exact w2)
        rw [eB] at hpB
        rw [w1] at hpB
        rw [eB]
        exact group_core (C := []) (c := false) hq (.inr ⟨rfl, rfl⟩) hpB
      | true =>
        have eA : headG true ++ S = 99 :: 111 :: 117 :: 110 :: 116 :: 32 :: S := rfl
        have eB : headG true ++ [40] ++ S ++ [41] = 99 :: 111 :: 117 :: 110 :: 116 :: 32 :: (40 :: (S ++ [41])) := by simp [headG]
        rw [eA] at hs hq
        rw [scan_count] at hs hq
        obtain ⟨hs6, ht⟩ := Sc.cons_errG hs
        rw [ht] at hq
        obtain ⟨w1, w2⟩ := scanL_wrap S 6 hs6
        have hsB : (Sc.cons [tCount 0] (scanL (40 :: (S ++ [41])) 6)).err = 0 := by unfold Sc.cons; rw [if_pos w2]
        have hpB := parseP_of (S := headG true ++ [40] ++ S ++ [41]) (by omega) (by rw [eB, scan_count]; exact hsB)
        rw [eB, scan_count, (Sc.cons_errG hsB).2, w1] at hpB
        rw [eB]
        exact group_core (C := [tCount 0]) (c := true) hq (.inl ⟨rfl, rfl⟩) hpB
  · exact .inl he
end Go.Proofs.YteilkcdbdpkbfaaDoor
