/- A printed node's text is its signs with blanks between; the signs are good. No Go text is spoken of. -/
import Derived.Test.YteilkcdbdpkbfaaDoorQRound3
namespace Go.Proofs.YteilkcdbdpkbfaaDoor
open Go.RowKit
set_option linter.unusedVariables false
set_option linter.unusedSimpArgs false
theorem joinL_cons (t : Tok) {l : List Tok} (h : l ≠ []) : joinL (t :: l) = t.text ++ 32 :: joinL l := by
  have := joinL_append [t] l (by simp) h
  simpa [joinL] using this
theorem joinL_sepTail (w : Tok) : ∀ (l : List (List Tok)) (A : List Tok), A ≠ [] → (∀ b ∈ l, b ≠ []) → joinL (A ++ sepTail w l) = joinL A ++ Lib.joinTail (32 :: (w.text ++ [32])) (l.map joinL)
  | [], A, _, _ => by simp [sepTail, Lib.joinTail]
  | b :: l, A, hA, hb => by
    have hb0 : b ≠ [] := hb b (by simp)
    have e : A ++ sepTail w (b :: l) = (A ++ w :: b) ++ sepTail w l := by simp [sepTail]
    rw [e, joinL_sepTail w l (A ++ w :: b) (by simp) (fun x hx => hb x (by simp [hx])), joinL_append A (w :: b) hA (by simp), joinL_cons w hb0]
    simp [Lib.joinTail]
theorem joinL_sepJoin (w : Tok) {a : List Tok} {l : List (List Tok)} (ha : a ≠ []) (hl : ∀ b ∈ l, b ≠ []) : joinL (sepJoin w (a :: l)) = Lib.join ((a :: l).map joinL) (32 :: (w.text ++ [32])) := by
  rw [sepJoin_cons, joinL_sepTail w l a ha hl, List.map_cons, Lib.join_cons]
theorem wrap_text {b : Bool} {t : List Tok} (h : t ≠ []) : joinL (wrapK b t) = wrapT b (joinL t) := by
  unfold wrapK wrapT
  cases b with
  | false => rfl
  | true =>
    simp only [if_true]
    rw [joinL_cons _ (by simp), joinL_append t [mTok [41]] h (by simp)]
    simp [mTok, joinL]
theorem open_good : Good (mTok [40]) := ⟨by simp [mTok], by decide, rfl⟩
theorem shut_good : Good (mTok [41]) := ⟨by simp [mTok], by decide, rfl⟩
theorem wrap_good {b : Bool} {t : List Tok} (h : ∀ x ∈ t, Good x) : ∀ x ∈ wrapK b t, Good x := by
  unfold wrapK
  cases b with
  | false => exact h
  | true =>
    intro x hx
    simp only [if_true, List.mem_cons, List.mem_append, List.not_mem_nil, or_false] at hx
    rcases hx with rfl | hx | rfl
    · exact open_good
    · exact h x hx
    · exact shut_good
theorem wrap_ne {b : Bool} {t : List Tok} (h : t ≠ []) : wrapK b t ≠ [] := by
  unfold wrapK
  cases b with
  | false => exact h
  | true => simp
theorem sepTail_mem (w : Tok) : ∀ (l : List (List Tok)) (x : Tok), x ∈ sepTail w l → x = w ∨ ∃ b ∈ l, x ∈ b
  | [], x, h => by simp [sepTail] at h
  | b :: l, x, h => by
    simp only [sepTail, List.mem_cons, List.mem_append] at h
    rcases h with h | h | h
    · exact .inl h
    · exact .inr ⟨b, by simp, h⟩
    · rcases sepTail_mem w l x h with h | ⟨c, hc, hx⟩
      · exact .inl h
      · exact .inr ⟨c, by simp [hc], hx⟩
theorem fields_w : (fieldNames.all fun F => wOk F.data.toList) = true := by kernel_rfl
theorem field_good {f : ByteArray} (h : fieldB f = true) : Good (wTok f.data.toList) := wTok_good (List.all_eq_true.1 fields_w f ((Lib.containsS_iff fieldNames f).1 h))
theorem near_good {f : ByteArray} (h : isNear f) : Good (wTok f.data.toList) := by
  rcases h with rfl | rfl | rfl
  · exact wTok_good (by decide)
  · exact wTok_good (by decide)
  · exact wTok_good (by decide)
theorem val_good {f s : ByteArray} {x : Int} (hw : WF (.mk 4 [] f s x)) : Good (valTok f x) ∧ (valTok f x).text = valueT f x := by
  unfold WF at hw
  rcases hw with ⟨h, -⟩ | ⟨h, -⟩ | ⟨h, -⟩ | ⟨h, -⟩ | ⟨-, -, hf, hg, ho, hs, hv⟩
  · omega
  · omega
  · omega
  · omega
  · unfold valTok valueT
    rcases hv with ⟨hn, ⟨v, hv⟩, hm⟩ | ⟨hn, h1, h2⟩
    · rw [hn, wordP_back hv]
      simp only [if_true]
      exact ⟨word_good (valueQ_mem (by rw [hv])), rfl⟩
    · rw [hn]
      simp only [Bool.false_eq_true, if_false]
      exact ⟨vTok_good h1 h2, rfl⟩
/-- What a printed node's signs are good for. -/
def TextAt (n : NodeR) : Prop := bodyT n = joinL (ptB n) ∧ ptB n ≠ [] ∧ ∀ t ∈ ptB n, Good t
theorem text_N {n : NodeR} (h : TextAt n) (m : Int) : nodeT m n = joinL (ptN m n) ∧ ptN m n ≠ [] ∧ ∀ t ∈ ptN m n, Good t := by
  obtain ⟨h1, h2, h3⟩ := h
  unfold nodeT ptN
  exact ⟨by rw [wrap_text h2, h1], wrap_ne h2, wrap_good h3⟩
theorem text_all : ∀ (f : Nat) (n : NodeR), n.wt ≤ f → WF n → TextAt n
  | 0, .mk k ks fl s x, hw, _ => by simp [NodeR.wt] at hw
  | f + 1, .mk k ks fl s x, hw, hwf => by
    have hkid : ∀ c ∈ ks, WF c → TextAt c := fun c hc hcw => by
      obtain ⟨i, hi, rfl⟩ := List.getElem_of_mem hc
      have := wtL_at ks i hi
      unfold NodeR.wt at hw
      exact text_all f _ (by omega) hcw
    have hwf' := hwf
    unfold WF at hwf
    rcases hwf with ⟨hk, hl, rfl, rfl, rfl, hs⟩ | ⟨rfl, hl, rfl, rfl, rfl, hs⟩ | ⟨rfl, rfl, rfl, rfl, rfl⟩ | ⟨rfl, rfl, hf, rfl, h1, h2⟩ | ⟨rfl, rfl, h5⟩
    · have hB : ∀ c ∈ ks, TextAt c := fun c hc => hkid c hc ((WFs_at ks).1 hs c hc)
      have eB : ptB (.mk k ks ⟨#[]⟩ ⟨#[]⟩ 0) = sepJoin (wTok (tSep k)) (ks.map (ptN (k + 1))) := by
        unfold ptB
        rw [if_pos hk, ptK_map]
      have eT : bodyT (.mk k ks ⟨#[]⟩ ⟨#[]⟩ 0) = Lib.join (ks.map (nodeT (k + 1))) (sepT k) := by
        unfold bodyT
        rw [if_pos hk, kidsT_map]
      have hsep : sepT k = 32 :: ((wTok (tSep k)).text ++ [32]) := by rcases hk with rfl | rfl <;> rfl
      have hgw : Good (wTok (tSep k)) := by rcases hk with rfl | rfl <;> exact wTok_good (by decide)
      have em : ks.map (nodeT (k + 1)) = (ks.map (ptN (k + 1))).map joinL := by
        rw [List.map_map]
        exact List.map_congr_left fun c hc => (text_N (hB c hc) (k + 1)).1
      unfold TextAt
      rw [eB, eT, em, hsep]
      match ks, hl with
      | a :: l, _ =>
        have hne : ∀ b ∈ l.map (ptN (k + 1)), b ≠ [] := fun b hb => by
          obtain ⟨c, hc, rfl⟩ := List.mem_map.1 hb
          exact (text_N (hB c (by simp [hc])) (k + 1)).2.1
        have ha := text_N (hB a (by simp)) (k + 1)
        refine ⟨(joinL_sepJoin _ ha.2.1 hne).symm, ?_, ?_⟩
        · rw [List.map_cons, sepJoin_cons]
          intro e
          exact ha.2.1 (List.append_eq_nil_iff.1 e).1
        · rw [List.map_cons, sepJoin_cons]
          intro t ht
          rcases List.mem_append.1 ht with ht | ht
          · exact ha.2.2 t ht
          · rcases sepTail_mem _ _ _ ht with rfl | ⟨b, hb, hx⟩
            · exact hgw
            · obtain ⟨c, hc, rfl⟩ := List.mem_map.1 hb
              exact (text_N (hB c (by simp [hc])) (k + 1)).2.2 t hx
    · match ks, hl with
      | [c], _ =>
        have hB := text_N (hkid c (by simp) ((WFs_at [c]).1 hs c (by simp))) 3
        have eB : ptB (.mk 3 [c] ⟨#[]⟩ ⟨#[]⟩ 0) = wTok tNot :: ptN 3 c := by
          unfold ptB
          rw [if_neg (by omega), if_pos rfl, ptK_map]
          rfl
        have eT : bodyT (.mk 3 [c] ⟨#[]⟩ ⟨#[]⟩ 0) = [110, 111, 116, 32] ++ nodeT 3 c := by
          unfold bodyT
          rw [if_neg (by omega), if_pos rfl, if_pos (show [c].length = 1 from rfl), kidsT_map]
          rfl
        unfold TextAt
        rw [eB, eT, hB.1, joinL_cons _ hB.2.1]
        refine ⟨rfl, by simp, fun t ht => ?_⟩
        rcases List.mem_cons.1 ht with rfl | ht
        · exact wTok_good (by decide)
        · exact hB.2.2 t ht
    · have eB : ptB (.mk 6 [] ⟨#[]⟩ ⟨#[]⟩ 0) = [wTok tAll] := by unfold ptB; rw [if_neg (by omega), if_neg (by omega), if_neg (by omega), if_pos rfl]
      have eT : bodyT (.mk 6 [] ⟨#[]⟩ ⟨#[]⟩ 0) = [97, 108, 108] := by unfold bodyT; rw [if_neg (by omega), if_neg (by omega), if_neg (by omega), if_pos rfl]
      unfold TextAt
      rw [eB, eT]
      refine ⟨rfl, by simp, fun t ht => ?_⟩
      rw [List.mem_singleton.1 ht]
      exact wTok_good (by decide)
    · have eB : ptB (.mk 5 [] fl ⟨#[]⟩ x) = [wTok fl.data.toList, vTok x] := by unfold ptB; rw [if_neg (by omega), if_neg (by omega), if_pos rfl]
      have eT : bodyT (.mk 5 [] fl ⟨#[]⟩ x) = fl.data.toList ++ [32] ++ Lib.itoa x := by unfold bodyT; rw [if_neg (by omega), if_neg (by omega), if_pos rfl]
      unfold TextAt
      rw [eB, eT]
      refine ⟨by simp [joinL, wTok, vTok], by simp, fun t ht => ?_⟩
      simp only [List.mem_cons, List.not_mem_nil, or_false] at ht
      rcases ht with rfl | rfl
      · exact near_good hf
      · exact vTok_good h1 h2
    · have eB : ptB (.mk 4 [] fl s x) = [wTok fl.data.toList, mTok s.data.toList, valTok fl x] := by unfold ptB; rw [if_neg (by omega), if_neg (by omega), if_neg (by omega), if_neg (by omega)]
      have eT : bodyT (.mk 4 [] fl s x) = fl.data.toList ++ [32] ++ s.data.toList ++ [32] ++ valueT fl x := by unfold bodyT; rw [if_neg (by omega), if_neg (by omega), if_neg (by omega), if_neg (by omega), if_pos rfl]
      obtain ⟨v1, v2⟩ := val_good hwf'
      unfold TextAt
      rw [eB, eT, ← v2]
      refine ⟨by simp [joinL, wTok, mTok], by simp, fun t ht => ?_⟩
      simp only [List.mem_cons, List.not_mem_nil, or_false] at ht
      rcases ht with rfl | rfl | rfl
      · exact field_good h5.1
      · exact h5.2.1
      · exact v1
end Go.Proofs.YteilkcdbdpkbfaaDoor
