/- A node that is read is well formed; a well-formed node is read back from its printed signs. No Go text is spoken of. -/
import Derived.Test.YteilkcdbdpkbfaaDoorQPt
namespace Go.Proofs.YteilkcdbdpkbfaaDoor
open Go.RowKit
set_option linter.unusedVariables false
set_option linter.unusedSimpArgs false
theorem str_of_isT {t : Tok} {L : List Tok} {b : ByteArray} (h : isT (t :: L) b = true) : t.str = b := toList_injG (by simpa [isT] using h)
theorem partP_wf (fin : Nat) : ∀ d, GoodAt 3 d (partP fin d)
  | 0, L, n, R, _, h => by simp [partP, failP] at h
  | d + 1, L, n, R, hg, h => by
    unfold partP at h
    by_cases h1 : isT L bNot = true
    · rw [if_pos h1] at h
      cases hr : partP fin d L.tail with
      | bad e p => rw [hr] at h; cases h
      | ok n1 R1 =>
        rw [hr] at h
        cases h
        have ht := List.tail_suffix L
        obtain ⟨w1, w2, w3⟩ := partP_wf fin d _ _ _ (good_suf ht hg) hr
        refine ⟨?_, ?_, w3.trans ht⟩
        · unfold WF
          exact .inr (.inl ⟨rfl, rfl, rfl, rfl, rfl, w1, trivial⟩)
        · unfold needN
          rw [if_neg (by show ¬tightI 3 < 3; decide)]
          unfold need
          rw [if_neg (by omega), if_pos rfl]
          have := (needK_le 3 d [n1]).2 (fun x hx => by rw [List.mem_singleton.1 hx]; exact w2)
          omega
    · rw [if_neg h1] at h
      by_cases h2 : isT L bAll = true
      · rw [if_pos h2] at h
        cases h
        refine ⟨?_, ?_, List.tail_suffix L⟩
        · unfold WF
          exact .inr (.inr (.inl ⟨rfl, rfl, rfl, rfl, rfl⟩))
        · unfold needN
          rw [if_neg (by show ¬tightI 6 < 3; decide)]
          unfold need
          rw [if_neg (by omega), if_neg (by omega)]
          omega
      · rw [if_neg h2] at h
        by_cases h3 : isT L bOpen = true
        · rw [if_pos h3] at h
          cases hr : listP 1 bOr (listP 2 bAnd (partP fin d)) L.tail with
          | bad e p => rw [hr] at h; cases h
          | ok n1 R1 =>
            rw [hr] at h
            simp only at h
            split at h
            · cases h
              have ht := List.tail_suffix L
              obtain ⟨w1, w2, w3⟩ := listP_wf (k := 1) (.inl rfl) (listP_wf (k := 2) (.inr rfl) (partP_wf fin d)) _ _ _ (good_suf ht hg) hr
              refine ⟨w1, ?_, (List.tail_suffix R1).trans (w3.trans ht)⟩
              unfold needN at w2 ⊢
              have := tightI_pos n.kind
              rw [if_neg (by omega)] at w2
              split <;> omega
            · simp [failP] at h
        · rw [if_neg h3] at h
          by_cases h4 : (isT L bOverlaps || isT L bBefore || isT L bAfter) = true
          · rw [if_pos h4] at h
            obtain ⟨t, v, rfl, hk, rfl⟩ := (nearP_iff _ _ _ _).1 h
            obtain ⟨c1, c2, -⟩ := num_read (hg v (by simp)) hk
            refine ⟨?_, ?_, ⟨[t, v], rfl⟩⟩
            · unfold WF
              refine .inr (.inr (.inr (.inl ⟨rfl, rfl, ?_, rfl, c1, c2⟩)))
              simp only [Bool.or_eq_true] at h4
              rcases h4 with (h4 | h4) | h4
              · exact .inl (str_of_isT h4)
              · exact .inr (.inl (str_of_isT h4))
              · exact .inr (.inr (str_of_isT h4))
            · unfold needN
              rw [if_neg (by show ¬tightI 5 < 3; decide)]
              unfold need
              rw [if_neg (by omega), if_neg (by omega)]
              omega
          · rw [if_neg h4] at h
            exact compareP_wf fin d _ _ _ hg h
theorem orP_wf (fin d : Nat) : GoodAt 1 d (orP fin d) := listP_wf (.inl rfl) (listP_wf (.inr rfl) (partP_wf fin d))
/-- The signs behind the first ones, each with the word ahead. -/
def sepTail (w : Tok) : List (List Tok) → List Tok
  | [] => []
  | a :: l => w :: (a ++ sepTail w l)
theorem sepJoin_cons (w : Tok) : ∀ (a : List Tok) (l : List (List Tok)), sepJoin w (a :: l) = a ++ sepTail w l
  | a, [] => by simp [sepJoin, sepTail]
  | a, b :: l => by
    have := sepJoin_cons w b l
    simp only [sepJoin, this, sepTail]
theorem listP_single {k : Int} {b : ByteArray} {part : List Tok → PR NodeR} {L M : List Tok} {n : NodeR} (h : part L = .ok n M) (hM : isT M b = false) : listP k b part L = .ok n M := by
  unfold listP
  rw [h]
  simp [hM]
theorem more_back {b : ByteArray} {w : Tok} (hw : w.str = b) {part : List Tok → PR NodeR} {pt : NodeR → List Tok} {C : List Tok → Prop} : ∀ (f : Nat) (l : List NodeR) (M : List Tok) (acc : List NodeR),
    (∀ n ∈ l, ∀ M', C M' → part (pt n ++ M') = .ok n M') → (∀ X, C (w :: X)) → C M → isT M b = false → (sepTail w (l.map pt) ++ M).length ≤ f → moreP b part f (sepTail w (l.map pt) ++ M) acc = .ok (acc ++ l) M
  | f, [], M, acc, _, _, _, hM, _ => by
    simp only [List.map_nil, sepTail, List.nil_append, List.append_nil]
    cases f with
    | zero => rfl
    | succ f => rw [moreP, if_neg (by simp [hM])]
  | 0, a :: l, M, acc, _, _, _, _, hf => by simp [sepTail] at hf
  | f + 1, a :: l, M, acc, hp, hC, hCM, hM, hf => by
    simp only [List.map_cons, sepTail, List.cons_append, List.append_assoc]
    have ht : isT (w :: (pt a ++ (sepTail w (l.map pt) ++ M))) b = true := by
      simp only [isT, hw]
      simp
    rw [moreP, if_pos ht, List.tail_cons]
    have hC2 : C (sepTail w (l.map pt) ++ M) := by
      cases l with
      | nil => simpa [sepTail] using hCM
      | cons c l => simpa [sepTail] using hC _
    rw [hp a (by simp) _ hC2]
    simp only
    rw [more_back hw f l M (acc ++ [a]) (fun n hn => hp n (by simp [hn])) hC hCM hM (by simp [sepTail] at hf ⊢; omega)]
    simp
theorem list_back {k : Int} {b : ByteArray} {w : Tok} (hw : w.str = b) {part : List Tok → PR NodeR} {pt : NodeR → List Tok} {C : List Tok → Prop} {l : List NodeR} (hl : 2 ≤ l.length) (M : List Tok)
    (hp : ∀ n ∈ l, ∀ M', C M' → part (pt n ++ M') = .ok n M') (hC : ∀ X, C (w :: X)) (hCM : C M) (hM : isT M b = false) : listP k b part (sepJoin w (l.map pt) ++ M) = .ok (.mk k l ⟨#[]⟩ ⟨#[]⟩ 0) M := by
  match l, hl with
  | a :: c :: l, _ =>
    rw [List.map_cons, sepJoin_cons, List.append_assoc]
    unfold listP
    have hC2 : C (sepTail w ((c :: l).map pt) ++ M) := by simpa [sepTail] using hC _
    rw [hp a (by simp) _ hC2]
    simp only
    have ht : isT (sepTail w ((c :: l).map pt) ++ M) b = true := by
      simp only [List.map_cons, sepTail, List.cons_append, isT, hw]
      simp
    rw [if_pos ht, more_back hw _ (c :: l) M [a] (fun n hn => hp n (by simp at hn ⊢; exact .inr hn)) hC hCM hM (Nat.le_refl _)]
    rfl
theorem tk_str (b : ByteArray) (t : List UInt8) (k : Nat) (x : Int) (h : b.data.toList = t) : (Tok.mk k t x 0).str = b := by
  unfold Tok.str
  apply ByteArray.ext
  rw [← h]
theorem idx_mem (x : ByteArray) : ∀ (zs : List ByteArray) (i : Nat), 0 ≤ Lib.idxFromS zs x i → x ∈ zs
  | [], i, h => by simp [Lib.idxFromS] at h
  | a :: l, i, h => by
    unfold Lib.idxFromS at h
    by_cases e : a = x
    · simp [e]
    · rw [if_neg e] at h
      exact List.mem_cons_of_mem _ (idx_mem x l (i + 1) h)
theorem idx_lo (x : ByteArray) : ∀ (zs : List ByteArray) (i : Nat), 0 ≤ Lib.idxFromS zs x i → (i : Int) ≤ Lib.idxFromS zs x i
  | [], i, h => by simp [Lib.idxFromS] at h
  | a :: l, i, h => by
    unfold Lib.idxFromS at h ⊢
    by_cases e : a = x
    · rw [if_pos e]; omega
    · rw [if_neg e] at h ⊢
      have := idx_lo x l (i + 1) h
      omega
/-- Words at the same place are the same. -/
theorem idx_inj (x y : ByteArray) : ∀ (zs : List ByteArray) (i : Nat), 0 ≤ Lib.idxFromS zs x i → Lib.idxFromS zs x i = Lib.idxFromS zs y i → x = y
  | [], i, h, _ => by simp [Lib.idxFromS] at h
  | a :: l, i, h, e => by
    have hy : 0 ≤ Lib.idxFromS (a :: l) y i := by rw [← e]; exact h
    unfold Lib.idxFromS at h e hy
    by_cases e1 : a = x
    · by_cases e2 : a = y
      · exact e1.symm.trans e2
      · rw [if_pos e1, if_neg e2] at e
        rw [if_neg e2] at hy
        have := idx_lo y l (i + 1) hy
        omega
    · rw [if_neg e1] at h e
      by_cases e2 : a = y
      · rw [if_pos e2] at e
        have := idx_lo x l (i + 1) h
        omega
      · rw [if_neg e2] at e
        exact idx_inj x y l (i + 1) h e
theorem field_not {f : ByteArray} (h : fieldB f = true) : (f.toList == bNot.toList) = false ∧ (f.toList == bAll.toList) = false ∧ (f.toList == bOpen.toList) = false ∧ (f.toList == bOverlaps.toList) = false ∧ (f.toList == bBefore.toList) = false ∧ (f.toList == bAfter.toList) = false := by
  have key : (fieldNames.all fun f => !(f.toList == bNot.toList) && !(f.toList == bAll.toList) && !(f.toList == bOpen.toList) && !(f.toList == bOverlaps.toList) && !(f.toList == bBefore.toList) && !(f.toList == bAfter.toList)) = true := by kernel_rfl
  have hm : f ∈ fieldNames := (Lib.containsS_iff fieldNames f).1 h
  have := List.all_eq_true.1 key f hm
  simp only [Bool.and_eq_true, Bool.not_eq_true'] at this
  obtain ⟨⟨⟨⟨⟨h1, h2⟩, h3⟩, h4⟩, h5⟩, h6⟩ := this
  exact ⟨h1, h2, h3, h4, h5, h6⟩
end Go.Proofs.YteilkcdbdpkbfaaDoor
