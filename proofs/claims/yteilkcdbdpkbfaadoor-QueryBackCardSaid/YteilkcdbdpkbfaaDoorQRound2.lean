/- A well-formed node is read back from its printed signs. No Go text is spoken of. -/
import Derived.Test.YteilkcdbdpkbfaaDoorQRound
namespace Go.Proofs.YteilkcdbdpkbfaaDoor
open Go.RowKit
set_option linter.unusedVariables false
set_option linter.unusedSimpArgs false
theorem names_no {f : ByteArray} (h : namesB f = false) (s : ByteArray) : (valueQ f s).2 = false := by
  unfold namesB at h
  simp only [Bool.or_eq_false_iff, beq_eq_false_iff_ne, ne_eq] at h
  obtain ⟨⟨h1, h2⟩, h3⟩ := h
  unfold valueQ
  simp [h1, h2, h3]
theorem str_true {s : ByteArray} (h : s.toList = [116, 114, 117, 101]) : s = sTrue := toList_injG (h.trans (Eq.symm (show sTrue.toList = [116, 114, 117, 101] from by kernel_rfl)))
theorem str_false {s : ByteArray} (h : s.toList = [102, 97, 108, 115, 101]) : s = sFalse := toList_injG (h.trans (Eq.symm (show sFalse.toList = [102, 97, 108, 115, 101] from by kernel_rfl)))
theorem valueQ_mem {f s : ByteArray} (h : (valueQ f s).2 = true) : s ∈ allWords := by
  unfold valueQ at h
  unfold allWords
  split at h
  · have := (Lib.idxOfS_nonneg_iff kindNames s).1 (by simpa using h)
    simp [this]
  · split at h
    · have := (Lib.idxOfS_nonneg_iff methNames s).1 (by simpa using h)
      simp [this]
    · split at h
      · simp only [Bool.or_eq_true, beq_iff_eq] at h
        rcases h with h | h
        · rw [str_true h]; simp
        · rw [str_false h]; simp
      · cases h
theorem valueQ_inj {f s v : ByteArray} {x : Int} (h1 : valueQ f s = (x, true)) (h2 : valueQ f v = (x, true)) : s = v := by
  unfold valueQ at h1 h2
  split at h1
  · rename_i hf
    rw [if_pos hf] at h2
    simp only [Prod.mk.injEq, decide_eq_true_eq] at h1 h2
    exact idx_inj s v kindNames 0 h1.2 (by have a := h1.1; have b := h2.1; unfold Lib.idxOfS at a b; omega)
  · rename_i hf
    rw [if_neg hf] at h2
    split at h1
    · rename_i hg
      rw [if_pos hg] at h2
      simp only [Prod.mk.injEq, decide_eq_true_eq] at h1 h2
      exact idx_inj s v methNames 0 h1.2 (by have a := h1.1; have b := h2.1; unfold Lib.idxOfS at a b; omega)
    · rename_i hg
      rw [if_neg hg] at h2
      split at h1
      · rename_i hh
        rw [if_pos hh] at h2
        simp only [Prod.mk.injEq, Bool.or_eq_true, beq_iff_eq] at h1 h2
        obtain ⟨a1, a2⟩ := h1
        obtain ⟨b1, b2⟩ := h2
        have eT : (sTrue.toList == [116, 114, 117, 101]) = true := by kernel_rfl
        have eF : (sFalse.toList == [116, 114, 117, 101]) = false := by kernel_rfl
        rcases a2 with a2 | a2 <;> rcases b2 with b2 | b2
        · rw [str_true a2, str_true b2]
        · rw [str_true a2, eT] at a1
          rw [str_false b2, eF] at b1
          simp only [flagI, if_true, Bool.false_eq_true, if_false] at a1 b1
          omega
        · rw [str_false a2, eF] at a1
          rw [str_true b2, eT] at b1
          simp only [flagI, if_true, Bool.false_eq_true, if_false] at a1 b1
          omega
        · rw [str_false a2, str_false b2]
      · simp at h1
theorem wordF_find {f v : ByteArray} {x : Int} (hv : valueQ f v = (x, true)) : ∀ l : List ByteArray, v ∈ l → wordF f x l = (v, true)
  | [], h => by cases h
  | s :: l, h => by
    unfold wordF
    by_cases hs : (valueQ f s).2 = true ∧ (valueQ f s).1 = x
    · rw [if_pos hs]
      have : valueQ f s = (x, true) := Prod.ext hs.2 hs.1
      rw [valueQ_inj this hv]
    · rw [if_neg hs]
      rcases List.mem_cons.1 h with rfl | h
      · exact absurd ⟨by rw [hv], by rw [hv]⟩ hs
      · exact wordF_find hv l h
theorem wordP_back {f v : ByteArray} {x : Int} (hv : valueQ f v = (x, true)) : wordP f x = (v, true) := wordF_find hv allWords (valueQ_mem (by rw [hv]))
theorem words_ok : (allWords.all fun v => wOk v.data.toList) = true := by kernel_rfl
theorem word_good {v : ByteArray} (h : v ∈ allWords) : Good (wTok v.data.toList) := wTok_good (List.all_eq_true.1 words_ok v h)
theorem wTok_str (f : ByteArray) : (wTok f.data.toList).str = f := rfl
theorem mTok_str (f : ByteArray) : (mTok f.data.toList).str = f := rfl
theorem comp_back (fin d : Nat) {f s : ByteArray} {x : Int} (hw : WF (.mk 4 [] f s x)) (M : List Tok) : partP fin (d + 1) ([wTok f.data.toList, mTok s.data.toList, valTok f x] ++ M) = .ok (.mk 4 [] f s x) M := by
  unfold WF at hw
  rcases hw with ⟨h, -⟩ | ⟨h, -⟩ | ⟨h, -⟩ | ⟨h, -⟩ | ⟨-, -, hf, hg, ho, hs, hv⟩
  · omega
  · omega
  · omega
  · omega
  · obtain ⟨n1, n2, n3, n4, n5, n6⟩ := field_not hf
    have hI : ∀ (X : List Tok) (b : ByteArray), isT (wTok f.data.toList :: X) b = (f.toList == b.toList) := fun X b => rfl
    simp only [List.cons_append, List.nil_append]
    unfold partP
    simp only [hI, n1, n2, n3, n4, n5, n6, Bool.false_eq_true, if_false, Bool.or_self]
    refine (compareP_iff _ _ _ _).2 ⟨_, _, _, rfl, hf, ?_, rfl, ?_, ?_, ?_⟩
    · have h1 : ∀ b : ByteArray, s ≠ b → isT [mTok s.data.toList] b = false := fun b hb => by
        show (s.toList == b.toList) = false
        simpa using fun e => hb (toList_injG e)
      rw [h1 _ ho, h1 _ hs]
      rfl
    · unfold valTok
      split <;> simp [wTok, vTok]
    · rw [wTok_str, mTok_str]
      rcases hv with ⟨hn, ⟨v, hv⟩, hm⟩ | ⟨hn, -⟩
      · have e : (valTok f x).str = v := by
          unfold valTok
          rw [if_pos hn, wordP_back hv]
          rfl
        rw [e, hv, hn]
        rintro (h | ⟨h, -⟩ | ⟨-, h1, h2⟩)
        · exact h rfl
        · cases h
        · rcases hm with h | h
          · exact h1 h
          · exact h2 h
      · rw [names_no hn, hn]
        rintro (h | ⟨-, h⟩ | ⟨h, -⟩)
        · exact h rfl
        · unfold valTok at h
          rw [if_neg (by rw [hn]; simp)] at h
          exact h rfl
        · cases h
    · rw [wTok_str, mTok_str]
      rcases hv with ⟨hn, ⟨v, hv⟩, hm⟩ | ⟨hn, -⟩
      · have e : (valTok f x).str = v := by
          unfold valTok
          rw [if_pos hn, wordP_back hv]
          rfl
        rw [e, hv]
        rfl
      · have ev : valTok f x = vTok x := by unfold valTok; rw [hn]; rfl
        rw [names_no hn, ev]
        rfl
theorem near_back (fin d : Nat) {f : ByteArray} {x : Int} (hf : isNear f) (M : List Tok) : partP fin (d + 1) ([wTok f.data.toList, vTok x] ++ M) = .ok (.mk 5 [] f ⟨#[]⟩ x) M := by
  have hI : ∀ (X : List Tok) (b : ByteArray), isT (wTok f.data.toList :: X) b = (f.toList == b.toList) := fun X b => rfl
  simp only [List.cons_append, List.nil_append]
  unfold partP
  simp only [hI]
  have key : (f.toList == bNot.toList) = false ∧ (f.toList == bAll.toList) = false ∧ (f.toList == bOpen.toList) = false ∧ (f.toList == bOverlaps.toList || f.toList == bBefore.toList || f.toList == bAfter.toList) = true := by
    rcases hf with rfl | rfl | rfl
    · exact ⟨by kernel_rfl, by kernel_rfl, by kernel_rfl, by kernel_rfl⟩
    · exact ⟨by kernel_rfl, by kernel_rfl, by kernel_rfl, by kernel_rfl⟩
    · exact ⟨by kernel_rfl, by kernel_rfl, by kernel_rfl, by kernel_rfl⟩
  obtain ⟨k1, k2, k3, k4⟩ := key
  rw [k1, k2, k3, k4]
  simp only [Bool.false_eq_true, if_false, if_true]
  exact (nearP_iff _ _ _ _).2 ⟨_, _, rfl, rfl, rfl⟩
theorem all_back (fin d : Nat) (M : List Tok) : partP fin (d + 1) ([wTok tAll] ++ M) = .ok (.mk 6 [] ⟨#[]⟩ ⟨#[]⟩ 0) M := by
  have h1 : isT ([wTok tAll] ++ M) bNot = false := by
    show ((⟨tAll.toArray⟩ : ByteArray).toList == bNot.toList) = false
    kernel_rfl
  have h2 : isT ([wTok tAll] ++ M) bAll = true := by
    show ((⟨tAll.toArray⟩ : ByteArray).toList == bAll.toList) = true
    kernel_rfl
  unfold partP
  rw [h1, h2]
  rfl
theorem not_back {fin d : Nat} {L M : List Tok} {n : NodeR} (h : partP fin d L = .ok n M) : partP fin (d + 1) (wTok tNot :: L) = .ok (.mk 3 [n] ⟨#[]⟩ ⟨#[]⟩ 0) M := by
  have h1 : isT (wTok tNot :: L) bNot = true := by
    show ((⟨tNot.toArray⟩ : ByteArray).toList == bNot.toList) = true
    kernel_rfl
  unfold partP
  rw [h1]
  simp only [if_true, List.tail_cons]
  rw [h]
theorem wrap_back {fin d : Nat} {L M : List Tok} {n : NodeR} (h : orP fin d (L ++ (mTok [41] :: M)) = .ok n (mTok [41] :: M)) : partP fin (d + 1) (mTok [40] :: (L ++ [mTok [41]]) ++ M) = .ok n M := by
  have e : mTok [40] :: (L ++ [mTok [41]]) ++ M = tOpen 0 :: (L ++ (mTok [41] :: M)) := by
    show mTok [40] :: ((L ++ [mTok [41]]) ++ M) = _
    rw [List.append_assoc]
    rfl
  rw [e, part_open, h]
  have h1 : isT (mTok [41] :: M) bShut = true := by
    show ((⟨[41].toArray⟩ : ByteArray).toList == bShut.toList) = true
    kernel_rfl
  simp only [h1, if_true, List.tail_cons]
end Go.Proofs.YteilkcdbdpkbfaaDoor
