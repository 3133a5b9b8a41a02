/- A well-formed node is read back from its printed signs: the whole. No Go text is spoken of. -/
import Derived.Test.YteilkcdbdpkbfaaDoorQRound2
namespace Go.Proofs.YteilkcdbdpkbfaaDoor
open Go.RowKit
set_option linter.unusedVariables false
set_option linter.unusedSimpArgs false
/-- The three ways in which a node without parentheses is read back. -/
def BackAt (fin : Nat) (n : NodeR) : Prop :=
  (n.kind = 2 → ∀ d M, need n ≤ d → isT M bAnd = false → andP fin d (ptB n ++ M) = .ok n M) ∧
  (n.kind = 1 → ∀ d M, need n ≤ d → isT M bAnd = false → isT M bOr = false → orP fin d (ptB n ++ M) = .ok n M) ∧
  (n.kind ≠ 1 → n.kind ≠ 2 → ∀ d M, need n ≤ d → partP fin d (ptB n ++ M) = .ok n M)
theorem shut_and (M : List Tok) : isT (mTok [41] :: M) bAnd = false := by
  show ((⟨[41].toArray⟩ : ByteArray).toList == bAnd.toList) = false
  kernel_rfl
theorem shut_or (M : List Tok) : isT (mTok [41] :: M) bOr = false := by
  show ((⟨[41].toArray⟩ : ByteArray).toList == bOr.toList) = false
  kernel_rfl
theorem or_and (M : List Tok) : isT (wTok (tSep 1) :: M) bAnd = false := by
  show ((⟨(tSep 1).toArray⟩ : ByteArray).toList == bAnd.toList) = false
  kernel_rfl
theorem sep_str (k : Int) (hk : k = 1 ∨ k = 2) : (wTok (tSep k)).str = (if k = 1 then bOr else bAnd) := by
  rcases hk with rfl | rfl <;> rfl
theorem ptN_plain {m : Int} {n : NodeR} (h : ¬tightI n.kind < m) : ptN m n = ptB n := by
  unfold ptN wrapK
  rw [if_neg (by simpa using h)]
theorem ptN_wrap {m : Int} {n : NodeR} (h : tightI n.kind < m) : ptN m n = mTok [40] :: (ptB n ++ [mTok [41]]) := by
  unfold ptN wrapK
  rw [if_pos (by simpa using h)]
theorem tight1 {k : Int} (h : k = 1) : tightI k = 1 := by rw [h]; rfl
theorem tight2 {k : Int} (h : k = 2) : tightI k = 2 := by rw [h]; rfl
theorem tight3 {k : Int} (h : k ≠ 1) (h' : k ≠ 2) : tightI k = 3 := by unfold tightI; rw [if_neg h, if_neg h']
/-- As a whole condition. -/
theorem or_back {fin : Nat} {n : NodeR} (h : BackAt fin n) {d : Nat} {M : List Tok} (hd : need n ≤ d) (ha : isT M bAnd = false) (ho : isT M bOr = false) : orP fin d (ptB n ++ M) = .ok n M := by
  by_cases h1 : n.kind = 1
  · exact h.2.1 h1 d M hd ha ho
  · by_cases h2 : n.kind = 2
    · exact listP_single (h.1 h2 d M hd ha) ho
    · exact listP_single (listP_single (h.2.2 h1 h2 d M hd) ha) ho
/-- As a part. -/
theorem part_back {fin : Nat} {n : NodeR} (h : BackAt fin n) {d : Nat} (M : List Tok) (hd : needN 3 n ≤ d) : partP fin d (ptN 3 n ++ M) = .ok n M := by
  unfold needN at hd
  by_cases ht : tightI n.kind < 3
  · rw [if_pos ht] at hd
    obtain ⟨d', rfl⟩ : ∃ d', d = d' + 1 := ⟨d - 1, by omega⟩
    rw [ptN_wrap ht]
    exact wrap_back (or_back h (by omega) (shut_and M) (shut_or M))
  · rw [if_neg ht] at hd
    rw [ptN_plain ht]
    have h1 : n.kind ≠ 1 := fun e => ht (by rw [tight1 e]; decide)
    have h2 : n.kind ≠ 2 := fun e => ht (by rw [tight2 e]; decide)
    exact h.2.2 h1 h2 d M hd
/-- As a part of an 'or'. -/
theorem and_back {fin : Nat} {n : NodeR} (h : BackAt fin n) {d : Nat} (M : List Tok) (hd : needN 2 n ≤ d) (ha : isT M bAnd = false) : andP fin d (ptN 2 n ++ M) = .ok n M := by
  by_cases h1 : n.kind = 1
  · have h3 := part_back h (d := d) M (by unfold needN at hd ⊢; rw [tight1 h1] at hd ⊢; rw [if_pos (by decide)] at hd ⊢; exact hd)
    have e : ptN 2 n = ptN 3 n := by rw [ptN_wrap (m := 2) (by rw [tight1 h1]; decide), ptN_wrap (m := 3) (by rw [tight1 h1]; decide)]
    rw [e]
    exact listP_single h3 ha
  · have ht : ¬tightI n.kind < 2 := by
      by_cases h2 : n.kind = 2
      · rw [tight2 h2]; decide
      · rw [tight3 h1 h2]; decide
    unfold needN at hd
    rw [if_neg ht] at hd
    rw [ptN_plain ht]
    by_cases h2 : n.kind = 2
    · exact h.1 h2 d M hd ha
    · exact listP_single (h.2.2 h1 h2 d M hd) ha
theorem back_all (fin : Nat) : ∀ (f : Nat) (n : NodeR), n.wt ≤ f → WF n → BackAt fin n
  | 0, .mk k ks fl s x, hw, _ => by simp [NodeR.wt] at hw
  | f + 1, .mk k ks fl s x, hw, hwf => by
    have hkid : ∀ c ∈ ks, WF c → BackAt fin c := fun c hc hcw => by
      obtain ⟨i, hi, rfl⟩ := List.getElem_of_mem hc
      have := wtL_at ks i hi
      unfold NodeR.wt at hw
      exact back_all fin f _ (by omega) hcw
    have hwf' := hwf
    unfold WF at hwf
    rcases hwf with ⟨hk, hl, rfl, rfl, rfl, hs⟩ | ⟨rfl, hl, rfl, rfl, rfl, hs⟩ | ⟨rfl, rfl, rfl, rfl, rfl⟩ | ⟨rfl, rfl, hf, rfl, -, -⟩ | ⟨rfl, rfl, h5⟩
    · have hB : ∀ c ∈ ks, BackAt fin c := fun c hc => hkid c hc ((WFs_at ks).1 hs c hc)
      have eB : ptB (.mk k ks ⟨#[]⟩ ⟨#[]⟩ 0) = sepJoin (wTok (tSep k)) (ks.map (ptN (k + 1))) := by
        unfold ptB
        rw [if_pos hk, ptK_map]
      have eN : need (.mk k ks ⟨#[]⟩ ⟨#[]⟩ 0) = needK (k + 1) ks := by
        unfold need
        rw [if_pos hk]
      refine ⟨fun h2 d M hd ha => ?_, fun h1 d M hd ha ho => ?_, fun h1 h2 => ?_⟩
      · have h2 : k = 2 := h2
        subst h2
        rw [eB]
        rw [eN, needK_le] at hd
        exact list_back (C := fun _ => True) rfl hl M (fun c hc M' _ => part_back (hB c hc) M' (hd c hc)) (fun _ => trivial) trivial ha
      · have h1 : k = 1 := h1
        subst h1
        rw [eB]
        rw [eN, needK_le] at hd
        exact list_back (C := fun X => isT X bAnd = false) rfl hl M (fun c hc M' hM' => and_back (hB c hc) M' (hd c hc) hM') (fun X => or_and X) ha ho
      · rcases hk with rfl | rfl
        · exact absurd rfl h1
        · exact absurd rfl h2
    · match ks, hl with
      | [c], _ =>
        have hB := hkid c (by simp) ((WFs_at [c]).1 hs c (by simp))
        refine ⟨fun h => ?_, fun h => ?_, fun _ _ d M hd => ?_⟩
        · exact absurd h (by show ¬(3 : Int) = 2; decide)
        · exact absurd h (by show ¬(3 : Int) = 1; decide)
        · have eN : need (.mk 3 [c] ⟨#[]⟩ ⟨#[]⟩ 0) = 1 + needK 3 [c] := by
            unfold need
            rw [if_neg (by omega), if_pos rfl]
          rw [eN] at hd
          obtain ⟨d', rfl⟩ : ∃ d', d = d' + 1 := ⟨d - 1, by omega⟩
          have hc := (needK_le 3 d' [c]).1 (by omega) c (by simp)
          have eB : ptB (.mk 3 [c] ⟨#[]⟩ ⟨#[]⟩ 0) = wTok tNot :: ptN 3 c := by
            unfold ptB
            rw [if_neg (by omega), if_pos rfl, ptK_map]
            rfl
          rw [eB]
          exact not_back (part_back hB M hc)
    · refine ⟨fun h => ?_, fun h => ?_, fun _ _ d M hd => ?_⟩
      · exact absurd h (by show ¬(6 : Int) = 2; decide)
      · exact absurd h (by show ¬(6 : Int) = 1; decide)
      · have eN : need (.mk 6 [] ⟨#[]⟩ ⟨#[]⟩ 0) = 1 := by unfold need; rw [if_neg (by omega), if_neg (by omega)]
        rw [eN] at hd
        obtain ⟨d', rfl⟩ : ∃ d', d = d' + 1 := ⟨d - 1, by omega⟩
        have eB : ptB (.mk 6 [] ⟨#[]⟩ ⟨#[]⟩ 0) = [wTok tAll] := by unfold ptB; rw [if_neg (by omega), if_neg (by omega), if_neg (by omega), if_pos rfl]
        rw [eB]
        exact all_back fin d' M
    · refine ⟨fun h => ?_, fun h => ?_, fun _ _ d M hd => ?_⟩
      · exact absurd h (by show ¬(5 : Int) = 2; decide)
      · exact absurd h (by show ¬(5 : Int) = 1; decide)
      · have eN : need (.mk 5 [] fl ⟨#[]⟩ x) = 1 := by unfold need; rw [if_neg (by omega), if_neg (by omega)]
        rw [eN] at hd
        obtain ⟨d', rfl⟩ : ∃ d', d = d' + 1 := ⟨d - 1, by omega⟩
        have eB : ptB (.mk 5 [] fl ⟨#[]⟩ x) = [wTok fl.data.toList, vTok x] := by unfold ptB; rw [if_neg (by omega), if_neg (by omega), if_pos rfl]
        rw [eB]
        exact near_back fin d' hf M
    · refine ⟨fun h => ?_, fun h => ?_, fun _ _ d M hd => ?_⟩
      · exact absurd h (by show ¬(4 : Int) = 2; decide)
      · exact absurd h (by show ¬(4 : Int) = 1; decide)
      · have eN : need (.mk 4 [] fl s x) = 1 := by unfold need; rw [if_neg (by omega), if_neg (by omega)]
        rw [eN] at hd
        obtain ⟨d', rfl⟩ : ∃ d', d = d' + 1 := ⟨d - 1, by omega⟩
        have eB : ptB (.mk 4 [] fl s x) = [wTok fl.data.toList, mTok s.data.toList, valTok fl x] := by unfold ptB; rw [if_neg (by omega), if_neg (by omega), if_neg (by omega), if_neg (by omega)]
        rw [eB]
        exact comp_back fin d' hwf' M
/-- A node that is read is read back from its printed signs. -/
theorem node_back {fin fin' d : Nat} {L R : List Tok} {n : NodeR} (hg : ∀ t ∈ L, Good t) (h : orP fin d L = .ok n R) {M : List Tok} (ha : isT M bAnd = false) (ho : isT M bOr = false) : WF n ∧ orP fin' d (ptB n ++ M) = .ok n M := by
  obtain ⟨h1, h2, -⟩ := orP_wf fin d L n R hg h
  refine ⟨h1, or_back (back_all fin' n.wt n (Nat.le_refl _) h1) ?_ ha ho⟩
  unfold needN at h2
  have := tightI_pos n.kind
  rw [if_neg (by omega)] at h2
  exact h2
end Go.Proofs.YteilkcdbdpkbfaaDoor
