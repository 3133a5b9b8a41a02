/- The signs of a printed node; which nodes are well formed. No Go text is spoken of. -/
import Derived.Test.YteilkcdbdpkbfaaDoorQNum
import Derived.Test.YteilkcdbdpkbfaaDoorQPrint
namespace Go.Proofs.YteilkcdbdpkbfaaDoor
open Go.RowKit
set_option linter.unusedVariables false
set_option linter.unusedSimpArgs false
def mTok (t : List UInt8) : Tok := ⟨3, t, 0, 0⟩
def tNot : List UInt8 := [110, 111, 116]
def tAll : List UInt8 := [97, 108, 108]
def tSep (k : Int) : List UInt8 := if k = 1 then [111, 114] else [97, 110, 100]
def valTok (f : ByteArray) (x : Int) : Tok := if namesB f = true then wTok (wordP f x).1.data.toList else vTok x
def wrapK (b : Bool) (t : List Tok) : List Tok := if b = true then mTok [40] :: (t ++ [mTok [41]]) else t
def sepJoin (w : Tok) : List (List Tok) → List Tok
  | [] => []
  | [a] => a
  | a :: b :: l => a ++ w :: sepJoin w (b :: l)
mutual
def ptB : NodeR → List Tok
  | .mk k ks f s x =>
    if k = 1 ∨ k = 2 then sepJoin (wTok (tSep k)) (ptK (k + 1) ks)
    else if k = 3 then wTok tNot :: (ptK 3 ks).headD []
    else if k = 5 then [wTok f.data.toList, vTok x]
    else if k = 6 then [wTok tAll]
    else [wTok f.data.toList, mTok s.data.toList, valTok f x]
def ptK (m : Int) : List NodeR → List (List Tok)
  | [] => []
  | n :: l => wrapK (decide (tightI n.kind < m)) (ptB n) :: ptK m l
end
def ptN (m : Int) (n : NodeR) : List Tok := wrapK (decide (tightI n.kind < m)) (ptB n)
theorem ptK_map (m : Int) : ∀ l : List NodeR, ptK m l = l.map (ptN m)
  | [] => by simp [ptK]
  | n :: l => by unfold ptK; rw [ptK_map m l]; rfl
def isNear (f : ByteArray) : Prop := f = bOverlaps ∨ f = bBefore ∨ f = bAfter
mutual
/-- A node that may be read. -/
def WF : NodeR → Prop
  | .mk k ks f s x =>
    ((k = 1 ∨ k = 2) ∧ 2 ≤ ks.length ∧ f = ⟨#[]⟩ ∧ s = ⟨#[]⟩ ∧ x = 0 ∧ WFs ks) ∨
    (k = 3 ∧ ks.length = 1 ∧ f = ⟨#[]⟩ ∧ s = ⟨#[]⟩ ∧ x = 0 ∧ WFs ks) ∨
    (k = 6 ∧ ks = [] ∧ f = ⟨#[]⟩ ∧ s = ⟨#[]⟩ ∧ x = 0) ∨
    (k = 5 ∧ ks = [] ∧ isNear f ∧ s = ⟨#[]⟩ ∧ -1099511627776 ≤ x ∧ x ≤ 1099511627776) ∨
    (k = 4 ∧ ks = [] ∧ fieldB f = true ∧ Good (mTok s.data.toList) ∧ s ≠ bOpen ∧ s ≠ bShut ∧
      ((namesB f = true ∧ (∃ v : ByteArray, valueQ f v = (x, true)) ∧ (s = bEq ∨ s = bNe)) ∨ (namesB f = false ∧ -1099511627776 ≤ x ∧ x ≤ 1099511627776)))
def WFs : List NodeR → Prop
  | [] => True
  | n :: l => WF n ∧ WFs l
end
theorem WFs_at : ∀ (l : List NodeR), WFs l ↔ ∀ n ∈ l, WF n
  | [] => by simp [WFs]
  | a :: l => by
    unfold WFs
    rw [WFs_at l]
    simp
mutual
/-- How deep a printed node must be read, where it stands without parentheses. -/
def need : NodeR → Nat
  | .mk k ks _ _ _ => if k = 1 ∨ k = 2 then needK (k + 1) ks else if k = 3 then 1 + needK 3 ks else 1
def needK (m : Int) : List NodeR → Nat
  | [] => 0
  | n :: l => max (if tightI n.kind < m then 1 + need n else need n) (needK m l)
end
def needN (m : Int) (n : NodeR) : Nat := if tightI n.kind < m then 1 + need n else need n
theorem needK_le (m : Int) (d : Nat) : ∀ l : List NodeR, needK m l ≤ d ↔ ∀ n ∈ l, needN m n ≤ d
  | [] => by simp [needK]
  | a :: l => by
    unfold needK
    rw [Nat.max_le, needK_le m d l]
    simp only [List.mem_cons, forall_eq_or_imp]
    rfl
theorem needN_mono {m m' : Int} (h : m ≤ m') (n : NodeR) : needN m n ≤ needN m' n := by
  unfold needN
  split <;> split <;> omega
/-- What a part's reading gives. -/
def GoodAt (m : Int) (d : Nat) (part : List Tok → PR NodeR) : Prop := ∀ L n R, (∀ t ∈ L, Good t) → part L = .ok n R → WF n ∧ needN m n ≤ d ∧ R <:+ L
theorem good_suf {L R : List Tok} (h : R <:+ L) (hg : ∀ t ∈ L, Good t) : ∀ t ∈ R, Good t := fun t ht => hg t (h.mem ht)
theorem moreP_wf {b : ByteArray} {m : Int} {d : Nat} {part : List Tok → PR NodeR} (hp : GoodAt m d part) : ∀ (f : Nat) (L : List Tok) (acc l : List NodeR) (S : List Tok), (∀ t ∈ L, Good t) → (∀ n ∈ acc, WF n ∧ needN m n ≤ d) → moreP b part f L acc = .ok l S → (∀ n ∈ l, WF n ∧ needN m n ≤ d) ∧ S <:+ L ∧ acc.length ≤ l.length
  | 0, L, acc, l, S, hg, ha, h => by
    simp only [moreP, PR.ok.injEq] at h
    obtain ⟨rfl, rfl⟩ := h
    exact ⟨ha, List.suffix_refl _, Nat.le_refl _⟩
  | f + 1, L, acc, l, S, hg, ha, h => by
    unfold moreP at h
    split at h
    · cases hr : part L.tail with
      | bad e p => rw [hr] at h; cases h
      | ok n R =>
        rw [hr] at h
        have ht : L.tail <:+ L := List.tail_suffix L
        obtain ⟨h1, h2, h3⟩ := hp _ _ _ (good_suf ht hg) hr
        obtain ⟨h4, h5, h6⟩ := moreP_wf hp f R _ l S (good_suf (h3.trans ht) hg) (fun x hx => by
          rcases List.mem_append.1 hx with hx | hx
          · exact ha x hx
          · rw [List.mem_singleton.1 hx]; exact ⟨h1, h2⟩) h
        refine ⟨h4, h5.trans (h3.trans ht), ?_⟩
        rw [List.length_append] at h6
        omega
    · simp only [PR.ok.injEq] at h
      obtain ⟨rfl, rfl⟩ := h
      exact ⟨ha, List.suffix_refl _, Nat.le_refl _⟩
theorem listP_wf {k : Int} (hk : k = 1 ∨ k = 2) {b : ByteArray} {d : Nat} {part : List Tok → PR NodeR} (hp : GoodAt (k + 1) d part) : GoodAt k d (listP k b part) := by
  intro L n R hg h
  unfold listP at h
  cases h0 : part L with
  | bad e p => rw [h0] at h; cases h
  | ok n0 R0 =>
    rw [h0] at h
    obtain ⟨h1, h2, h3⟩ := hp _ _ _ hg h0
    simp only at h
    split at h
    · rename_i ht
      have hR0 : 0 < R0.length := by cases R0 with | nil => simp [isT] at ht | cons a l => simp
      obtain ⟨g, hgf⟩ : ∃ g, R0.length = g + 1 := ⟨R0.length - 1, by omega⟩
      cases hm : moreP b part R0.length R0 [n0] with
      | bad e p => rw [hm] at h; cases h
      | ok l S =>
        rw [hm] at h
        cases h
        have hm' := hm
        rw [hgf, moreP, if_pos ht] at hm'
        cases hr : part R0.tail with
        | bad e p => rw [hr] at hm'; cases hm'
        | ok n1 R1 =>
          rw [hr] at hm'
          have hsR : R0.tail <:+ L := (List.tail_suffix R0).trans h3
          obtain ⟨k1, k2, k3⟩ := hp _ _ _ (good_suf hsR hg) hr
          obtain ⟨h4, h5, h6⟩ := moreP_wf hp g R1 [n0, n1] l R (good_suf (k3.trans hsR) hg) (fun x hx => by
            simp only [List.mem_cons, List.not_mem_nil, or_false] at hx
            rcases hx with rfl | rfl
            · exact ⟨h1, h2⟩
            · exact ⟨k1, k2⟩) hm'
          refine ⟨?_, ?_, h5.trans (k3.trans hsR)⟩
          · unfold WF
            exact .inl ⟨hk, by simpa using h6, rfl, rfl, rfl, (WFs_at l).2 (fun x hx => (h4 x hx).1)⟩
          · have e : needN k (.mk k l ⟨#[]⟩ ⟨#[]⟩ 0) = needK (k + 1) l := by
              unfold needN
              have ht2 : ¬tightI (NodeR.mk k l ⟨#[]⟩ ⟨#[]⟩ 0).kind < k := by
                show ¬tightI k < k
                rcases hk with rfl | rfl <;> decide
              rw [if_neg ht2]
              unfold need
              rw [if_pos hk]
            rw [e, needK_le]
            exact fun x hx => (h4 x hx).2
    · cases h
      exact ⟨h1, Nat.le_trans (needN_mono (by omega) n) h2, h3⟩
theorem fieldB_word {t : Tok} (h : fieldB t.str = true) : True := trivial
theorem compareP_wf (fin d : Nat) : GoodAt 3 (d + 1) (compareP fin) := by
  intro L n R hg h
  obtain ⟨t, m, v, rfl, a1, a2, a3, a4, a5, rfl⟩ := (compareP_iff _ _ _ _).1 h
  have gm := hg m (by simp)
  have gv := hg v (by simp)
  have hn : need (.mk 4 [] t.str m.str (if (valueQ t.str v.str).2 = true then (valueQ t.str v.str).1 else v.num)) = 1 := by
    unfold need
    rw [if_neg (by omega), if_neg (by omega)]
  refine ⟨?_, ?_, ⟨[t, m, v], rfl⟩⟩
  · unfold WF
    simp only [Bool.or_eq_false_iff] at a2
    have hm2 : ∀ b : ByteArray, isT [m] b = false → m.str ≠ b := fun b hb e => by
      simp only [isT] at hb
      rw [e] at hb
      simp at hb
    simp only [not_or, not_and, Decidable.not_not] at a5
    obtain ⟨b1, b2, b3⟩ := a5
    refine .inr (.inr (.inr (.inr ⟨rfl, rfl, a1, ?_, hm2 _ a2.1, hm2 _ a2.2, ?_⟩)))
    · refine ⟨gm.1, gm.2.1, ?_⟩
      have := gm.2.2
      rw [a3] at this
      have hnum : m.num = 0 := by
        have h5 := this
        unfold stepT at h5
        split at h5
        · injection h5 with h6 h7 h8
          omega
        · split at h5
          · split at h5
            · cases h5
            · injection h5 with h6 h7 h8
              omega
          · split at h5
            · injection h5 with h6 h7 h8
              exact h8.symm
            · cases h5
      rw [hnum] at this
      exact this
    · cases hv : (valueQ t.str v.str).2 with
      | true =>
        left
        simp only [hv, if_true]
        refine ⟨b1.trans hv, ⟨v.str, Prod.ext rfl hv⟩, ?_⟩
        by_cases e : m.str = bEq
        · exact .inl e
        · exact .inr (b3 hv e)
      | false =>
        right
        simp only [hv, Bool.false_eq_true, if_false]
        have hk2 := b2 hv
        obtain ⟨c1, c2, -⟩ := num_read gv hk2
        exact ⟨b1.trans hv, c1, c2⟩
  · unfold needN
    rw [hn, if_neg (by show ¬tightI 4 < 3; decide)]
    omega
end Go.Proofs.YteilkcdbdpkbfaaDoor
