/- How long the printed signs of a node are: no longer than the signs it was read of. No Go text is spoken of. -/
import Derived.Test.YteilkcdbdpkbfaaDoorQPtText
namespace Go.Proofs.YteilkcdbdpkbfaaDoor
open Go.RowKit
set_option linter.unusedVariables false
set_option linter.unusedSimpArgs false
def cost : List Tok → Nat
  | [] => 0
  | t :: l => t.text.length + 1 + cost l
theorem cost_append : ∀ A B : List Tok, cost (A ++ B) = cost A + cost B
  | [], B => by simp [cost]
  | t :: A, B => by
    simp only [List.cons_append, cost, cost_append A B]
    omega
theorem joinL_cost : ∀ l : List Tok, (joinL l).length ≤ cost l
  | [] => by simp [joinL, cost]
  | [t] => by simp [joinL, cost]
  | t :: u :: l => by
    have := joinL_cost (u :: l)
    simp only [joinL, List.length_append, List.length_cons]
    unfold cost
    omega
theorem cost_wrap (b : Bool) (t : List Tok) : cost t ≤ cost (wrapK b t) ∧ cost (wrapK b t) ≤ cost t + 4 := by
  unfold wrapK
  cases b with
  | false => simp
  | true =>
    simp only [if_true, cost, cost_append, mTok, List.length_singleton]
    omega
theorem ptN_mono {m m' : Int} (h : m ≤ m') (n : NodeR) : cost (ptN m n) ≤ cost (ptN m' n) := by
  unfold ptN wrapK
  by_cases h1 : tightI n.kind < m
  · rw [if_pos (by simpa using h1), if_pos (by simpa using (by omega : tightI n.kind < m'))]
    exact Nat.le_refl _
  · rw [if_neg (by simpa using h1)]
    exact (cost_wrap _ _).1
/-- What a part's reading costs. -/
def CostAt (m : Int) (part : List Tok → PR NodeR) : Prop := ∀ L n R, (∀ t ∈ L, Good t) → part L = .ok n R → R <:+ L ∧ cost (ptN m n) + cost R ≤ cost L
theorem cost_tail {L : List Tok} {b : ByteArray} (h : isT L b = true) : cost L = b.data.toList.length + 1 + cost L.tail := by
  obtain ⟨t, l, rfl⟩ := isT_some h
  have := str_of_isT h
  have e : t.text.length = b.data.toList.length := by rw [← this]; simp [Tok.str]
  simp only [cost, e, List.tail_cons]
theorem moreP_cost {b : ByteArray} {w : Tok} (hw : w.text = b.data.toList) {m : Int} {part : List Tok → PR NodeR} (hp : CostAt m part) : ∀ (f : Nat) (L : List Tok) (acc l : List NodeR) (S : List Tok), (∀ t ∈ L, Good t) → moreP b part f L acc = .ok l S → ∃ l', l = acc ++ l' ∧ S <:+ L ∧ cost (sepTail w (l'.map (ptN m))) + cost S ≤ cost L
  | 0, L, acc, l, S, hg, h => by
    simp only [moreP, PR.ok.injEq] at h
    obtain ⟨rfl, rfl⟩ := h
    exact ⟨[], by simp, List.suffix_refl _, by simp [sepTail, cost]⟩
  | f + 1, L, acc, l, S, hg, h => by
    unfold moreP at h
    by_cases ht : isT L b = true
    · rw [if_pos ht] at h
      cases hr : part L.tail with
      | bad e p => rw [hr] at h; cases h
      | ok n R =>
        rw [hr] at h
        have hs := List.tail_suffix L
        obtain ⟨h1, h2⟩ := hp _ _ _ (good_suf hs hg) hr
        obtain ⟨l', e, h3, h4⟩ := moreP_cost hw hp f R _ l S (good_suf (h1.trans hs) hg) h
        refine ⟨n :: l', by rw [e]; simp, h3.trans (h1.trans hs), ?_⟩
        have h5 := cost_tail ht
        simp only [List.map_cons, sepTail, cost, cost_append, hw]
        omega
    · rw [if_neg ht] at h
      simp only [PR.ok.injEq] at h
      obtain ⟨rfl, rfl⟩ := h
      exact ⟨[], by simp, List.suffix_refl _, by simp [sepTail, cost]⟩
theorem listP_cost {k : Int} (hk : k = 1 ∨ k = 2) {b : ByteArray} (hw : (wTok (tSep k)).text = b.data.toList) {part : List Tok → PR NodeR} (hp : CostAt (k + 1) part) : CostAt k (listP k b part) := by
  intro L n R hg h
  unfold listP at h
  cases h0 : part L with
  | bad e p => rw [h0] at h; cases h
  | ok n0 R0 =>
    rw [h0] at h
    obtain ⟨h1, h2⟩ := hp _ _ _ hg h0
    simp only at h
    split at h
    · cases hm : moreP b part R0.length R0 [n0] with
      | bad e p => rw [hm] at h; cases h
      | ok l S =>
        rw [hm] at h
        cases h
        obtain ⟨l', rfl, h3, h4⟩ := moreP_cost hw hp _ _ _ _ _ (good_suf h1 hg) hm
        refine ⟨h3.trans h1, ?_⟩
        have e : ptN k (.mk k ([n0] ++ l') ⟨#[]⟩ ⟨#[]⟩ 0) = ptN (k + 1) n0 ++ sepTail (wTok (tSep k)) (l'.map (ptN (k + 1))) := by
          have ht : ¬tightI (NodeR.mk k ([n0] ++ l') ⟨#[]⟩ ⟨#[]⟩ 0).kind < k := by
            show ¬tightI k < k
            rcases hk with rfl | rfl <;> decide
          rw [ptN_plain ht]
          unfold ptB
          rw [if_pos hk, ptK_map, List.singleton_append, List.map_cons, sepJoin_cons]
        rw [e, cost_append]
        omega
    · cases h
      exact ⟨h1, Nat.le_trans (Nat.add_le_add_right (ptN_mono (by omega) n) _) h2⟩
theorem partP_cost (fin : Nat) : ∀ d, CostAt 3 (partP fin d)
  | 0, L, n, R, _, h => by simp [partP, failP] at h
  | d + 1, L, n, R, hg, h => by
    have hwf := partP_wf fin (d + 1) L n R hg h
    refine ⟨hwf.2.2, ?_⟩
    unfold partP at h
    by_cases h1 : isT L bNot = true
    · rw [if_pos h1] at h
      cases hr : partP fin d L.tail with
      | bad e p => rw [hr] at h; cases h
      | ok n1 R1 =>
        rw [hr] at h
        cases h
        obtain ⟨-, w2⟩ := partP_cost fin d _ _ _ (good_suf (List.tail_suffix L) hg) hr
        have e : ptN 3 (.mk 3 [n1] ⟨#[]⟩ ⟨#[]⟩ 0) = wTok tNot :: ptN 3 n1 := by
          rw [ptN_plain (by show ¬tightI 3 < 3; decide)]
          unfold ptB
          rw [if_neg (by omega), if_pos rfl, ptK_map]
          rfl
        have h5 := cost_tail h1
        rw [e]
        have h6 : bNot.data.toList.length = 3 := rfl
        simp only [cost, wTok, tNot, List.length_cons, List.length_nil]
        omega
    · rw [if_neg h1] at h
      by_cases h2 : isT L bAll = true
      · rw [if_pos h2] at h
        cases h
        have e : ptN 3 (.mk 6 [] ⟨#[]⟩ ⟨#[]⟩ 0) = [wTok tAll] := by
          rw [ptN_plain (by show ¬tightI 6 < 3; decide)]
          unfold ptB
          rw [if_neg (by omega), if_neg (by omega), if_neg (by omega), if_pos rfl]
        have h5 := cost_tail h2
        rw [e]
        have h6 : bAll.data.toList.length = 3 := rfl
        simp only [cost, wTok, tAll, List.length_cons, List.length_nil]
        omega
      · rw [if_neg h2] at h
        by_cases h3 : isT L bOpen = true
        · rw [if_pos h3] at h
          cases hr : listP 1 bOr (listP 2 bAnd (partP fin d)) L.tail with
          | bad e p => rw [hr] at h; cases h
          | ok n1 R1 =>
            rw [hr] at h
            simp only at h
            by_cases h4 : isT R1 bShut = true
            · rw [if_pos h4] at h
              cases h
              obtain ⟨-, w2⟩ := listP_cost (k := 1) (.inl rfl) (b := bOr) rfl (listP_cost (k := 2) (.inr rfl) (b := bAnd) rfl (partP_cost fin d)) _ _ _ (good_suf (List.tail_suffix L) hg) hr
              have h5 := cost_tail h3
              have h6 := cost_tail h4
              have h7 : bOpen.data.toList.length = 1 := rfl
              have h8 : bShut.data.toList.length = 1 := rfl
              have e1 : ptN 1 n = ptB n := ptN_plain (by have := tightI_pos n.kind; omega)
              rw [e1] at w2
              have := (cost_wrap (decide (tightI n.kind < 3)) (ptB n)).2
              unfold ptN
              omega
            · rw [if_neg h4] at h
              simp [failP] at h
        · rw [if_neg h3] at h
          by_cases h4 : (isT L bOverlaps || isT L bBefore || isT L bAfter) = true
          · rw [if_pos h4] at h
            obtain ⟨t, v, rfl, hk, rfl⟩ := (nearP_iff _ _ _ _).1 h
            obtain ⟨-, -, c3⟩ := num_read (hg v (by simp)) hk
            have e : ptN 3 (.mk 5 [] t.str ⟨#[]⟩ v.num) = [wTok t.str.data.toList, vTok v.num] := by
              rw [ptN_plain (by show ¬tightI 5 < 3; decide)]
              unfold ptB
              rw [if_neg (by omega), if_neg (by omega), if_pos rfl]
            rw [e]
            simp only [cost, wTok, vTok, Tok.str]
            omega
          · rw [if_neg h4] at h
            obtain ⟨t, m, v, rfl, a1, a2, a3, a4, a5, rfl⟩ := (compareP_iff _ _ _ _).1 h
            have e : ∀ x, ptN 3 (.mk 4 [] t.str m.str x) = [wTok t.str.data.toList, mTok m.str.data.toList, valTok t.str x] := fun x => by
              rw [ptN_plain (by show ¬tightI 4 < 3; decide)]
              unfold ptB
              rw [if_neg (by omega), if_neg (by omega), if_neg (by omega), if_neg (by omega)]
            simp only [not_or, not_and, Decidable.not_not] at a5
            obtain ⟨b1, b2, b3⟩ := a5
            rw [e]
            have hval : (valTok t.str (if (valueQ t.str v.str).2 = true then (valueQ t.str v.str).1 else v.num)).text.length ≤ v.text.length := by
              cases hv : (valueQ t.str v.str).2 with
              | true =>
                simp only [if_true]
                unfold valTok
                rw [b1.trans hv, wordP_back (v := v.str) (Prod.ext rfl hv)]
                exact Nat.le_refl _
              | false =>
                simp only [Bool.false_eq_true, if_false]
                unfold valTok
                rw [b1.trans hv]
                exact (num_read (hg v (by simp)) (b2 hv)).2.2
            generalize valTok t.str (if (valueQ t.str v.str).2 = true then (valueQ t.str v.str).1 else v.num) = V at hval ⊢
            simp only [cost, wTok, mTok, Tok.str]
            omega
theorem orP_cost (fin d : Nat) : CostAt 1 (orP fin d) := listP_cost (.inl rfl) rfl (listP_cost (.inr rfl) rfl (partP_cost fin d))
/-- The signs of a text are no longer than twice the text. -/
theorem scanF_cost : ∀ (f : Nat) (L : List UInt8) (i : Nat), cost (scanF f L i).toks ≤ 2 * L.length
  | 0, L, i => by simp [scanF, cost]
  | f + 1, [], i => by simp [scanF, cost]
  | f + 1, b :: l, i => by
    unfold scanF
    split
    · have := scanF_cost f l (i + 1)
      simp only [List.length_cons]
      omega
    · cases hs : stepT (b :: l) with
      | bad e => simp [cost]
      | tok k n v =>
        obtain ⟨h0, h1⟩ := stepT_len (by simp) hs
        have := scanF_cost f ((b :: l).drop n) (i + n)
        rw [List.length_drop] at this
        simp only [Sc.cons]
        split
        · simp only [List.cons_append, List.nil_append, cost, List.length_take]
          omega
        · simp [cost]
end Go.Proofs.YteilkcdbdpkbfaaDoor
