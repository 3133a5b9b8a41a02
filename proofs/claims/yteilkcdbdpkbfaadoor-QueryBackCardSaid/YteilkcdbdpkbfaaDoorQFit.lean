/- What is read is small. No Go text is spoken of. -/
import Derived.Test.YteilkcdbdpkbfaaDoorQTextP
import Derived.Test.YteilkcdbdpkbfaaDoorQTokOk
namespace Go.Proofs.YteilkcdbdpkbfaaDoor
open Go.RowKit
set_option linter.unusedVariables false
set_option linter.unusedSimpArgs false
/-- A node that was read of signs: it can be reckoned with, and is no heavier than its signs. -/
structure Read (L R : List Tok) (n : NodeR) : Prop where
  fit : n.Fit
  suf : R <:+ L
  wgt : n.wgt + 8200 * R.length ≤ 8200 * L.length
def Reads (part : List Tok → PR NodeR) : Prop := ∀ L n R, L.length ≤ 4096 → (∀ t ∈ L, t.Ok) → part L = .ok n R → Read L R n
theorem str_size (t : Tok) : t.str.size = t.text.length := by simp [Tok.str, ByteArray.size]
theorem suf_ok {L R : List Tok} (h : R <:+ L) (ho : ∀ t ∈ L, t.Ok) : ∀ t ∈ R, t.Ok := fun t ht => ho t (h.mem ht)
theorem kidsFit_append : ∀ (l m : List NodeR), kidsFit l → kidsFit m → kidsFit (l ++ m)
  | [], m, _, h => h
  | a :: l, m, h, h' => by
    unfold kidsFit at h
    show kidsFit (a :: (l ++ m))
    unfold kidsFit
    exact ⟨h.1, kidsFit_append l m h.2 h'⟩
theorem wgtL_append : ∀ (l m : List NodeR), wgtL (l ++ m) = wgtL l + wgtL m
  | [], m => by simp [wgtL]
  | a :: l, m => by
    show wgtL (a :: (l ++ m)) = _
    simp only [wgtL, wgtL_append l m]
    omega
theorem moreP_read (b : ByteArray) (part : List Tok → PR NodeR) (hp : Reads part) : ∀ (f : Nat) (L : List Tok) (acc l : List NodeR) (S : List Tok), L.length ≤ 4096 → (∀ t ∈ L, t.Ok) → kidsFit acc → moreP b part f L acc = .ok l S →
    kidsFit l ∧ S <:+ L ∧ l.length + S.length ≤ acc.length + L.length ∧ (1 + wgtL l + l.length) + 8200 * S.length ≤ (1 + wgtL acc + acc.length) + 8200 * L.length
  | 0, L, acc, l, S, hl, ho, ha, h => by
    simp only [moreP, PR.ok.injEq] at h
    obtain ⟨rfl, rfl⟩ := h
    exact ⟨ha, List.suffix_refl _, Nat.le_refl _, Nat.le_refl _⟩
  | f + 1, L, acc, l, S, hl, ho, ha, h => by
    simp only [moreP] at h
    split at h
    · rename_i ht
      obtain ⟨t, L1, rfl⟩ : ∃ t L1, L = t :: L1 := by
        cases L with
        | nil => simp [isT] at ht
        | cons t L1 => exact ⟨t, L1, rfl⟩
      simp only [List.tail_cons] at h
      simp only [List.length_cons] at hl
      split at h
      · rename_i n R hr
        have hR := hp L1 n R (by omega) (fun t ht => ho t (by simp [ht])) hr
        have hRl := hR.suf.length_le
        have := moreP_read b part hp f R (acc ++ [n]) l S (by omega) (suf_ok hR.suf (fun t ht => ho t (by simp [ht]))) (kidsFit_append _ _ ha (by unfold kidsFit; exact ⟨hR.fit, by unfold kidsFit; trivial⟩)) h
        obtain ⟨h1, h2, h3, h4⟩ := this
        have hw := hR.wgt
        rw [wgtL_append] at h4
        simp only [wgtL, List.length_append, List.length_cons, List.length_nil] at h3 h4
        refine ⟨h1, h2.trans (hR.suf.trans (List.suffix_cons _ _)), ?_, ?_⟩
        · simp only [List.length_cons]; omega
        · simp only [List.length_cons]; omega
      · cases h
    · simp only [PR.ok.injEq] at h
      obtain ⟨rfl, rfl⟩ := h
      exact ⟨ha, List.suffix_refl _, Nat.le_refl _, Nat.le_refl _⟩
theorem listP_read (k : Int) (hk : I64 k) (b : ByteArray) (part : List Tok → PR NodeR) (hp : Reads part) : Reads (listP k b part) := by
  intro L n R hl ho h
  unfold listP at h
  split at h
  · cases h
  · rename_i n0 R0 h0
    have hR := hp L n0 R0 hl ho h0
    have hRl := hR.suf.length_le
    split at h
    · rename_i ht
      have hR0 : 0 < R0.length := by cases R0 with | nil => simp [isT] at ht | cons a l => simp
      split at h
      · cases h
      · rename_i l S hs
        cases h
        obtain ⟨t, R1, rfl⟩ : ∃ t R1, R0 = t :: R1 := by
          cases R0 with
          | nil => simp at hR0
          | cons t R1 => exact ⟨t, R1, rfl⟩
        simp only [moreP, ht, List.length_cons, if_true, List.tail_cons] at hs
        split at hs
        · rename_i n1 Q hq
          simp only [List.length_cons] at hRl
          have ho1 : ∀ t ∈ R1, t.Ok := fun x hx => suf_ok hR.suf ho x (by simp [hx])
          have hQ := hp R1 n1 Q (by omega) ho1 hq
          have hQl := hQ.suf.length_le
          have kf : kidsFit ([n0] ++ [n1]) := by
            show kidsFit [n0, n1]
            unfold kidsFit kidsFit kidsFit
            exact ⟨hR.fit, hQ.fit, trivial⟩
          obtain ⟨h1, h2, h3, h4⟩ := moreP_read b part hp _ Q _ l R (by omega) (suf_ok hQ.suf ho1) kf hs
          have w0 := hR.wgt
          have w1 := hQ.wgt
          have e2 : wgtL ([n0] ++ [n1]) = n0.wgt + n1.wgt := by simp [wgtL]
          rw [e2] at h4
          simp only [List.length_append, List.length_cons, List.length_nil] at h3 h4 w0
          refine ⟨?_, h2.trans (hQ.suf.trans ((List.suffix_cons _ _).trans hR.suf)), ?_⟩
          · unfold NodeR.Fit
            exact ⟨hk, by unfold I64; omega, by decide, by decide, by omega, h1⟩
          · show 1 + l.length + 0 + 0 + wgtL l + 8200 * R.length ≤ 8200 * L.length
            omega
        · cases hs
    · cases h
      exact hR
theorem leaf_fit {k x : Int} {f s : ByteArray} (hk : I64 k) (hx : I64 x) (hf : f.size ≤ 4096) (hs : s.size ≤ 4096) : (NodeR.mk k [] f s x).Fit := by
  unfold NodeR.Fit
  exact ⟨hk, hx, by omega, by omega, by simp, by unfold kidsFit; trivial⟩
theorem valueQ_lo (f s : ByteArray) : I64 (valueQ f s).1 := by
  unfold valueQ I64
  split
  · have := idxOfS_lo kindNames s
    have e : (kindNames.length : Int) = 6 := rfl
    simp only
    omega
  · split
    · have := idxOfS_lo methNames s
      have e : (methNames.length : Int) = 14 := rfl
      simp only
      omega
    · split
      · simp only [flagI]
        split <;> omega
      · simp only; omega
theorem compareP_read (fin : Nat) : Reads (compareP fin) := by
  intro L n R hl ho h
  unfold compareP at h
  split at h
  · simp [failP] at h
  · rename_i t L1
    split at h
    · split at h
      · simp [failP] at h
      · split at h
        · simp [failP] at h
        · split at h
          · split at h
            · simp [failP] at h
            · rename_i v L3
              split at h
              · simp [failP] at h
              · split at h
                · simp [failP] at h
                · rename_i m hm Lx v hvv hbb
                  cases h
                  have ht := (ho t (by simp)).2.2.2.1
                  have hm := (ho m (by simp)).2.2.2.1
                  have hv := (ho v (by simp)).2.2.2.2
                  have e1 := str_size t
                  have e2 := str_size m
                  refine ⟨leaf_fit (by unfold I64; omega) ?_ (by omega) (by omega), (List.suffix_cons _ _).trans ((List.suffix_cons _ _).trans (List.suffix_cons _ _)), ?_⟩
                  · split
                    · exact valueQ_lo _ _
                    · unfold I64; omega
                  · show 1 + 0 + t.str.size + m.str.size + wgtL [] + 8200 * R.length ≤ 8200 * (R.length + 1 + 1 + 1)
                    simp only [wgtL]
                    omega
          · simp [failP] at h
    · simp [failP] at h
theorem nearP_read (fin : Nat) : Reads (nearP fin) := by
  intro L n R hl ho h
  unfold nearP at h
  split at h
  · simp [failP] at h
  · rename_i t L1
    split at h
    · simp [failP] at h
    · rename_i v L2
      split at h
      · cases h
        have ht := (ho t (by simp)).2.2.2.1
        have hv := (ho v (by simp)).2.2.2.2
        have e1 := str_size t
        refine ⟨leaf_fit (by unfold I64; omega) (by unfold I64; omega) (by omega) (by simp [ByteArray.size]), (List.suffix_cons _ _).trans (List.suffix_cons _ _), ?_⟩
        show 1 + 0 + t.str.size + 0 + wgtL [] + 8200 * R.length ≤ 8200 * (R.length + 1 + 1)
        simp only [wgtL]
        omega
      · simp [failP] at h
theorem partP_read (fin : Nat) : ∀ d, Reads (partP fin d)
  | 0 => fun L n R hl ho h => by simp [partP, failP] at h
  | d + 1 => by
    intro L n R hl ho h
    unfold partP at h
    split at h
    · rename_i ht
      obtain ⟨t, L1, rfl⟩ : ∃ t L1, L = t :: L1 := by
        cases L with
        | nil => simp [isT] at ht
        | cons t L1 => exact ⟨t, L1, rfl⟩
      simp only [List.tail_cons, List.length_cons] at h hl
      split at h
      · rename_i n1 R1 h1
        cases h
        have hR := partP_read fin d L1 n1 R (by omega) (fun x hx => ho x (by simp [hx])) h1
        refine ⟨?_, hR.suf.trans (List.suffix_cons _ _), ?_⟩
        · unfold NodeR.Fit
          exact ⟨by unfold I64; omega, by unfold I64; omega, by decide, by decide, by simp, by unfold kidsFit kidsFit; exact ⟨hR.fit, trivial⟩⟩
        · have := hR.wgt
          show 1 + 1 + 0 + 0 + wgtL [n1] + 8200 * R.length ≤ 8200 * (L1.length + 1)
          simp only [wgtL]
          omega
      · cases h
    · split at h
      · rename_i ht
        obtain ⟨t, L1, rfl⟩ : ∃ t L1, L = t :: L1 := by
          cases L with
          | nil => simp [isT] at ht
          | cons t L1 => exact ⟨t, L1, rfl⟩
        cases h
        refine ⟨leaf_fit (by unfold I64; omega) (by unfold I64; omega) (by decide) (by decide), List.suffix_cons _ _, ?_⟩
        show 1 + 0 + 0 + 0 + wgtL [] + 8200 * L1.length ≤ 8200 * (L1.length + 1)
        simp only [wgtL]
        omega
      · split at h
        · rename_i ht
          obtain ⟨t, L1, rfl⟩ : ∃ t L1, L = t :: L1 := by
            cases L with
            | nil => simp [isT] at ht
            | cons t L1 => exact ⟨t, L1, rfl⟩
          simp only [List.tail_cons, List.length_cons] at h hl
          split at h
          · rename_i n1 R1 h1
            have hR := listP_read 1 (by unfold I64; omega) bOr _ (listP_read 2 (by unfold I64; omega) bAnd _ (partP_read fin d)) L1 n1 R1 (by omega) (fun x hx => ho x (by simp [hx])) h1
            split at h
            · cases h
              have hw := hR.wgt
              have ht2 : R1.tail <:+ R1 := List.tail_suffix _
              have hl2 := ht2.length_le
              refine ⟨hR.fit, ht2.trans (hR.suf.trans (List.suffix_cons _ _)), ?_⟩
              simp only [List.length_cons]
              omega
            · simp [failP] at h
          · cases h
        · split at h
          · exact nearP_read fin L n R hl ho h
          · exact compareP_read fin L n R hl ho h
theorem orP_read (fin d : Nat) : Reads (orP fin d) := listP_read 1 (by unfold I64; omega) bOr _ (listP_read 2 (by unfold I64; omega) bAnd _ (partP_read fin d))
/-- What is read can be reckoned with. -/
def QueryR.Fit (q : QueryR) : Prop := q.whr.Fit ∧ q.whr.wgt ≤ 33587200 ∧ q.order.size ≤ 4096 ∧ -1 ≤ q.limit ∧ q.limit ≤ 1099511627776
theorem queryP_fit {fin : Nat} {L : List Tok} {q : QueryR} {R : List Tok} (hl : L.length ≤ 4096) (ho : ∀ t ∈ L, t.Ok) (h : queryP fin L = .ok q R) : q.Fit := by
  unfold queryP at h
  have hs0 : (if isT L bCount = true then L.tail else L) <:+ L := by
    split
    · exact List.tail_suffix _
    · exact List.suffix_refl _
  generalize (if isT L bCount = true then L.tail else L) = L0 at *
  have hl0 := hs0.length_le
  split at h
  · cases h
  · rename_i n R0 h0
    have hR := orP_read fin 32 L0 n R0 (by omega) (suf_ok hs0 ho) h0
    have hw := hR.wgt
    have hl1 := hR.suf.length_le
    have ho1 := suf_ok (hR.suf.trans hs0) ho
    split at h
    · cases h
    · rename_i o S h1
      have hos : o.1.size ≤ 4096 ∧ S <:+ R0 := by
        unfold orderP at h1
        split at h1
        · have hts : R0.tail <:+ R0 := List.tail_suffix _
          split at h1
          · simp [failP] at h1
          · rename_i t L1 ht
            rw [ht] at hts
            split at h1
            · cases h1
              have := (ho1 t (hts.mem (by simp))).2.2.2.1
              have e := str_size t
              refine ⟨by simp only; omega, ?_⟩
              split
              · exact (List.tail_suffix _).trans ((List.suffix_cons _ _).trans hts)
              · exact (List.suffix_cons _ _).trans hts
            · simp [failP] at h1
        · cases h1
          exact ⟨by simp [ByteArray.size], List.suffix_refl _⟩
      have ho2 := suf_ok hos.2 ho1
      split at h
      · cases h
      · rename_i l T h2
        have hls : -1 ≤ l ∧ l ≤ 1099511627776 := by
          unfold limitP at h2
          split at h2
          · have hts : S.tail <:+ S := List.tail_suffix _
            split at h2
            · simp [failP] at h2
            · rename_i t L1 ht
              rw [ht] at hts
              split at h2
              · simp [failP] at h2
              · split at h2
                · cases h2
                  have := (ho2 t (hts.mem (by simp))).2.2.2.2
                  omega
                · simp [failP] at h2
          · cases h2
            omega
        unfold endP at h
        split at h
        · cases h
          exact ⟨hR.fit, by simp only; omega, hos.1, hls.1, hls.2⟩
        · simp [failP] at h
theorem parseP_fit (L : List UInt8) : (parseP L).q.Fit := by
  have hz : QueryR.zero.Fit := ⟨leaf_fit (by unfold I64; omega) (by unfold I64; omega) (by simp [ByteArray.size]) (by simp [ByteArray.size]), by simp [QueryR.zero, NodeR.zero, NodeR.wgt, wgtL, ByteArray.size], by simp [QueryR.zero, ByteArray.size], by simp [QueryR.zero], by simp [QueryR.zero]⟩
  unfold parseP
  split
  · exact hz
  · split
    · exact hz
    · split
      · rename_i q R h
        refine queryP_fit ?_ ?_ h
        · have := scanF_count L.length L 0
          unfold scanL
          omega
        · exact scanF_ok _ _ 0 (by omega)
      · exact hz
end Go.Proofs.YteilkcdbdpkbfaaDoor
