/- The plain law of reading back: what is read of a text that isn't too long is read of what is printed of it. No Go text is spoken of. -/
import Derived.Test.YteilkcdbdpkbfaaDoorQCost
namespace Go.Proofs.YteilkcdbdpkbfaaDoor
open Go.RowKit
set_option linter.unusedVariables false
set_option linter.unusedSimpArgs false
def sCount : List UInt8 := [99, 111, 117, 110, 116]
def ordT (q : QueryR) : List Tok := if q.order = ⟨#[]⟩ then [] else [wTok sOrder, wTok q.order.data.toList]
def dwnT (q : QueryR) : List Tok := if q.down = true then [wTok sDown] else []
def limT (q : QueryR) : List Tok := if 0 ≤ q.limit then [wTok sLimit, vTok q.limit] else []
def cntT (q : QueryR) : List Tok := if q.count = true then [wTok sCount] else []
def toksQ (q : QueryR) : List Tok := cntT q ++ (ptB q.whr ++ (ordT q ++ (dwnT q ++ limT q)))
/-- A query that may be read. -/
def QOk (q : QueryR) : Prop := ((q.order = ⟨#[]⟩ ∧ q.down = false) ∨ fieldB q.order = true) ∧ (q.limit = -1 ∨ (0 ≤ q.limit ∧ q.limit ≤ 1099511627776))
theorem app_list (a b : ByteArray) : (a ++ b).data.toList = a.data.toList ++ b.data.toList := by simp [ByteArray.data_append]
theorem print_text {q : QueryR} (h : TextAt q.whr) : (printB q).data.toList = joinL (toksQ q) := by
  obtain ⟨h1, h2, -⟩ := h
  have e0 : nodeT 0 q.whr = joinL (ptB q.whr) := by
    unfold nodeT wrapT
    have := tightI_pos q.whr.kind
    rw [if_neg (by simp; omega), h1]
  have e1 : (print1 q).data.toList = joinL (cntT q ++ ptB q.whr) ∧ cntT q ++ ptB q.whr ≠ [] := by
    unfold print1 cntT
    cases q.count with
    | false =>
      simp only [Bool.false_eq_true, if_false, List.nil_append]
      exact ⟨by rw [strB_data, e0], h2⟩
    | true =>
      simp only [if_true]
      refine ⟨?_, by simp⟩
      rw [joinL_append _ _ (by simp) h2, app_list, strB_data, e0]
      rfl
  have e2 : (print2 q).data.toList = joinL ((cntT q ++ ptB q.whr) ++ ordT q) ∧ (cntT q ++ ptB q.whr) ++ ordT q ≠ [] := by
    refine ⟨?_, fun e => e1.2 (List.append_eq_nil_iff.1 e).1⟩
    unfold print2 ordT
    by_cases ho : q.order = ⟨#[]⟩
    · rw [if_pos ho, if_pos ho, List.append_nil]
      exact e1.1
    · rw [if_neg ho, if_neg ho, joinL_append _ _ e1.2 (by simp), app_list, app_list, e1.1]
      simp [joinL, wTok, sOrder]
  have e3 : (print3 q).data.toList = joinL (((cntT q ++ ptB q.whr) ++ ordT q) ++ dwnT q) ∧ ((cntT q ++ ptB q.whr) ++ ordT q) ++ dwnT q ≠ [] := by
    refine ⟨?_, fun e => e2.2 (List.append_eq_nil_iff.1 e).1⟩
    unfold print3 dwnT
    cases q.down with
    | false =>
      simp only [Bool.false_eq_true, if_false, List.append_nil]
      exact e2.1
    | true =>
      simp only [if_true]
      rw [joinL_append _ _ e2.2 (by simp), app_list, e2.1]
      simp [joinL, wTok, sDown]
  have e4 : toksQ q = (((cntT q ++ ptB q.whr) ++ ordT q) ++ dwnT q) ++ limT q := by unfold toksQ; simp only [List.append_assoc]
  rw [e4]
  unfold printB limT
  by_cases hl : 0 ≤ q.limit
  · rw [if_pos hl, if_pos hl, joinL_append _ _ e3.2 (by simp), app_list, app_list, e3.1, strB_data]
    simp [joinL, wTok, vTok, sLimit]
  · rw [if_neg hl, if_neg hl, List.append_nil]
    exact e3.1
theorem toksQ_good {q : QueryR} (h : TextAt q.whr) (hq : QOk q) : ∀ t ∈ toksQ q, Good t := by
  intro t ht
  unfold toksQ cntT ordT dwnT limT at ht
  simp only [List.mem_append] at ht
  rcases ht with ht | ht | ht | ht | ht
  · split at ht
    · rw [List.mem_singleton.1 ht]; exact wTok_good (by decide)
    · cases ht
  · exact h.2.2 t ht
  · split at ht
    · cases ht
    · rename_i ho
      simp only [List.mem_cons, List.not_mem_nil, or_false] at ht
      rcases ht with rfl | rfl
      · exact wTok_good (by decide)
      · rcases hq.1 with ⟨h1, -⟩ | h1
        · exact absurd h1 ho
        · exact field_good h1
  · split at ht
    · rw [List.mem_singleton.1 ht]; exact wTok_good (by decide)
    · cases ht
  · split at ht
    · rename_i hl
      simp only [List.mem_cons, List.not_mem_nil, or_false] at ht
      rcases ht with rfl | rfl
      · exact wTok_good (by decide)
      · rcases hq.2 with h1 | ⟨h1, h2⟩
        · omega
        · exact vTok_good (by omega) h2
    · cases ht
/-- A text that begins with 'count' is no condition. -/
theorem orP_count {fin d : Nat} {t : Tok} {L : List Tok} (h : isT (t :: L) bCount = true) : ∃ p, orP fin (d + 1) (t :: L) = .bad 41 p := by
  have e2 := str_of_isT h
  have hf : fieldB bCount = false := by kernel_rfl
  refine ⟨t.pos, listP_bad (listP_bad ?_)⟩
  have k : ∀ b : ByteArray, isT (t :: L) b = (bCount.toList == b.toList) := fun b => by
    show (t.str.toList == b.toList) = _
    rw [e2]
  rw [partP]
  simp only [k]
  rw [show (bCount.toList == bNot.toList) = false from by kernel_rfl, show (bCount.toList == bAll.toList) = false from by kernel_rfl, show (bCount.toList == bOpen.toList) = false from by kernel_rfl, show (bCount.toList == bOverlaps.toList) = false from by kernel_rfl, show (bCount.toList == bBefore.toList) = false from by kernel_rfl, show (bCount.toList == bAfter.toList) = false from by kernel_rfl]
  simp only [Bool.false_eq_true, if_false, Bool.or_self]
  unfold compareP
  simp only [e2, hf, Bool.false_eq_true, if_false]
  rfl
theorem isT_w (t : List UInt8) (X : List Tok) (b : ByteArray) : isT (wTok t :: X) b = (t == b.data.toList) := isT_of _ _ _
/-- The tail of the printed signs. -/
theorem tail_back {q : QueryR} (hq : QOk q) (fin : Nat) : isT (ordT q ++ (dwnT q ++ limT q)) bAnd = false ∧ isT (ordT q ++ (dwnT q ++ limT q)) bOr = false ∧
    orderP fin (ordT q ++ (dwnT q ++ limT q)) = .ok (q.order, q.down) (limT q) ∧ limitP fin (limT q) = .ok q.limit [] := by
  obtain ⟨n, o, d, l, c⟩ := q
  obtain ⟨h1, h2⟩ := hq
  simp only at h1 h2
  have hl : limT ⟨n, o, d, l, c⟩ = [] ∨ limT ⟨n, o, d, l, c⟩ = [wTok sLimit, vTok l] := by
    unfold limT
    simp only
    split
    · exact .inr rfl
    · exact .inl rfl
  have hlim : limitP fin (limT ⟨n, o, d, l, c⟩) = .ok l [] := by
    unfold limT
    simp only
    rcases h2 with rfl | ⟨h3, h4⟩
    · rw [if_neg (by omega)]
      rfl
    · rw [if_pos h3]
      unfold limitP
      rw [if_pos (by rw [isT_w]; rfl)]
      simp only [List.tail_cons, vTok]
      rw [if_neg (by omega)]
      rfl
  have hn : ∀ b : ByteArray, (sLimit == b.data.toList) = false → isT (limT ⟨n, o, d, l, c⟩) b = false := fun b hb => by
    rcases hl with e | e
    · rw [e]; rfl
    · rw [e, isT_w]; exact hb
  have hord : ordT ⟨n, o, d, l, c⟩ = if o = ⟨#[]⟩ then [] else [wTok sOrder, wTok o.data.toList] := rfl
  have hdw : dwnT ⟨n, o, d, l, c⟩ = if d = true then [wTok sDown] else [] := rfl
  rcases h1 with ⟨rfl, rfl⟩ | h1
  · rw [hord, hdw]
    simp only [if_true, Bool.false_eq_true, if_false, List.nil_append]
    refine ⟨hn _ (by rfl), hn _ (by rfl), ?_, hlim⟩
    unfold orderP
    rw [if_neg (by rw [hn bOrder (by rfl)]; simp)]
  · have ho : o ≠ ⟨#[]⟩ := fun e => by
      rw [e, show fieldB ⟨#[]⟩ = false from by kernel_rfl] at h1
      cases h1
    rw [hord, hdw, if_neg ho]
    simp only [List.cons_append, List.nil_append]
    refine ⟨by rw [isT_w]; rfl, by rw [isT_w]; rfl, ?_, hlim⟩
    unfold orderP
    rw [if_pos (by rw [isT_w]; rfl)]
    simp only [List.tail_cons]
    rw [if_pos (show fieldB (wTok o.data.toList).str = true from h1)]
    cases d with
    | false =>
      simp only [Bool.false_eq_true, if_false, List.nil_append]
      rw [hn bDown (by rfl)]
      rfl
    | true =>
      simp only [if_true, List.cons_append, List.nil_append]
      have : isT (wTok sDown :: limT ⟨n, o, true, l, c⟩) bDown = true := by rw [isT_w]; rfl
      rw [this]
      rfl
theorem orderP_sim {fin fin' : Nat} {L L' T : List Tok} {o : ByteArray × Bool} (h : Sim L L') (e : orderP fin L = .ok o T) : ∃ T', Sim T T' ∧ orderP fin' L' = .ok o T' := by
  unfold orderP at e ⊢
  rw [← h.isT bOrder]
  split at e
  · rename_i h1
    rw [if_pos h1]
    obtain ⟨t0, l, rfl⟩ := isT_some h1
    obtain ⟨t0', l', rfl, -, -, -, h2⟩ := h.cons
    simp only [List.tail_cons] at e ⊢
    cases l with
    | nil => simp [failP] at e
    | cons t L1 =>
      obtain ⟨t', L1', rfl, -, b2, -, h3⟩ := h2.cons
      simp only at e ⊢
      rw [← Sim.str b2, ← h3.isT bDown]
      split at e
      · rename_i hf
        rw [if_pos hf]
        cases e
        refine ⟨_, ?_, rfl⟩
        split
        · exact h3.tail
        · exact h3
      · simp [failP] at e
  · rename_i h1
    rw [if_neg h1]
    cases e
    exact ⟨L', h, rfl⟩
theorem limitP_sim {fin fin' : Nat} {L L' T : List Tok} {x : Int} (h : Sim L L') (e : limitP fin L = .ok x T) : ∃ T', Sim T T' ∧ limitP fin' L' = .ok x T' := by
  unfold limitP at e ⊢
  rw [← h.isT bLimit]
  split at e
  · rename_i h1
    rw [if_pos h1]
    obtain ⟨t0, l, rfl⟩ := isT_some h1
    obtain ⟨t0', l', rfl, -, -, -, h2⟩ := h.cons
    simp only [List.tail_cons] at e ⊢
    cases l with
    | nil => simp [failP] at e
    | cons t L1 =>
      obtain ⟨t', L1', rfl, c1, -, c3, h3⟩ := h2.cons
      simp only at e ⊢
      rw [← c1, ← c3]
      split at e
      · simp [failP] at e
      · rename_i hn
        rw [if_neg hn]
        split at e
        · rename_i hk
          rw [if_pos hk]
          cases e
          exact ⟨L1', h3, rfl⟩
        · simp [failP] at e
  · rename_i h1
    rw [if_neg h1]
    cases e
    exact ⟨L', h, rfl⟩
/-- The printed signs, at whatever places, are read as the query. -/
theorem query_back {fin fin' : Nat} {q : QueryR} {L R : List Tok} (hg : ∀ t ∈ L, Good t) (h : orP fin 32 L = .ok q.whr R) (hq : QOk q) {L' : List Tok} (hs : Sim (toksQ q) L') : queryP fin' L' = .ok q [] := by
  obtain ⟨t1, t2, t3, t4⟩ := tail_back hq fin'
  obtain ⟨hw, hb⟩ := node_back (fin' := fin') hg h t1 t2
  have hcnt : isT (toksQ q) bCount = q.count ∧ (if isT (toksQ q) bCount then (toksQ q).tail else toksQ q) = ptB q.whr ++ (ordT q ++ (dwnT q ++ limT q)) := by
    unfold toksQ cntT
    cases q.count with
    | true =>
      simp only [if_true, List.cons_append, List.nil_append]
      have : isT (wTok sCount :: (ptB q.whr ++ (ordT q ++ (dwnT q ++ limT q)))) bCount = true := by rw [isT_w]; rfl
      rw [this]
      exact ⟨rfl, rfl⟩
    | false =>
      simp only [Bool.false_eq_true, if_false, List.nil_append]
      have : isT (ptB q.whr ++ (ordT q ++ (dwnT q ++ limT q))) bCount = false := by
        cases hc : isT (ptB q.whr ++ (ordT q ++ (dwnT q ++ limT q))) bCount with
        | false => rfl
        | true =>
          obtain ⟨t, l, e⟩ := isT_some hc
          rw [e] at hb hc
          obtain ⟨p, hp⟩ := orP_count (fin := fin') (d := 31) hc
          rw [hp] at hb
          cases hb
      rw [this]
      exact ⟨rfl, rfl⟩
  have hs2 : Sim (ptB q.whr ++ (ordT q ++ (dwnT q ++ limT q))) (if isT L' bCount then L'.tail else L') := by
    rw [← hcnt.2, ← hs.isT bCount]
    split
    · exact hs.tail
    · exact hs
  obtain ⟨M1, s1, r1⟩ := orP_sim fin' fin' 32 _ _ _ _ hs2 hb
  obtain ⟨M2, s2, r2⟩ := orderP_sim (fin' := fin') s1 t3
  obtain ⟨M3, s3, r3⟩ := limitP_sim (fin' := fin') s2 t4
  obtain rfl := s3.nil
  unfold queryP
  rw [r1]
  simp only
  rw [r2]
  simp only
  rw [r3]
  simp only
  rw [← hs.isT bCount, hcnt.1]
  rfl
theorem orderP_cost {fin : Nat} {S T : List Tok} {o : ByteArray × Bool} (h : orderP fin S = .ok o T) : T <:+ S ∧ ((o = (⟨#[]⟩, false) ∧ T = S) ∨ (fieldB o.1 = true ∧ cost T + (6 + (o.1.data.toList.length + 1)) + (if o.2 = true then 5 else 0) ≤ cost S)) := by
  unfold orderP at h
  split at h
  · rename_i h1
    have hc := cost_tail h1
    obtain ⟨t0, l, rfl⟩ := isT_some h1
    simp only [List.tail_cons] at h hc
    cases l with
    | nil => simp [failP] at h
    | cons t L1 =>
      simp only at h
      split at h
      · rename_i hf
        cases h
        have h6 : bOrder.data.toList.length = 5 := rfl
        rw [h6] at hc
        have h7 : t.str.data.toList.length = t.text.length := by simp [Tok.str]
        simp only [cost] at hc
        cases hd : isT L1 bDown with
        | true =>
          have hc2 := cost_tail hd
          have h8 : bDown.data.toList.length = 4 := rfl
          simp only [if_true]
          refine ⟨(List.tail_suffix L1).trans ⟨[t0, t], rfl⟩, .inr ⟨hf, ?_⟩⟩
          simp only [cost]
          omega
        | false =>
          simp only [Bool.false_eq_true, if_false]
          refine ⟨⟨[t0, t], rfl⟩, .inr ⟨hf, ?_⟩⟩
          simp only [cost]
          omega
      · simp [failP] at h
  · cases h
    exact ⟨List.suffix_refl _, .inl ⟨rfl, rfl⟩⟩
theorem limitP_cost {fin : Nat} {T : List Tok} {x : Int} (hg : ∀ t ∈ T, Good t) (h : limitP fin T = .ok x []) : (x = -1 ∧ T = []) ∨ (0 ≤ x ∧ x ≤ 1099511627776 ∧ 6 + ((Lib.itoa x).length + 1) ≤ cost T) := by
  unfold limitP at h
  split at h
  · rename_i h1
    have hc := cost_tail h1
    obtain ⟨t0, l, rfl⟩ := isT_some h1
    simp only [List.tail_cons] at h hc
    cases l with
    | nil => simp [failP] at h
    | cons t L1 =>
      simp only at h
      split at h
      · simp [failP] at h
      · rename_i hn
        split at h
        · rename_i hk
          cases h
          obtain ⟨c1, c2, c3⟩ := num_read (hg t (by simp)) hk
          have h6 : bLimit.data.toList.length = 5 := rfl
          rw [h6] at hc
          simp only [cost] at hc ⊢
          exact .inr ⟨by omega, c2, by omega⟩
        · simp [failP] at h
  · cases h
    exact .inl ⟨rfl, rfl⟩
/-- The plain law. -/
theorem back_law {S : List UInt8} {q : QueryR} {a : Nat} (hp : parseP S = ⟨q, a, 0⟩) (hS : S.length ≤ 1200) : parseP (printB q).data.toList = ⟨q, (printB q).data.toList.length, 0⟩ := by
  obtain ⟨-, hs, q', R, hq, hp'⟩ := parseP_ok (S := S) (by rw [hp])
  rw [hp] at hp'
  obtain ⟨rfl, -⟩ := (ParseR.mk.injEq .. ▸ hp' : q = q' ∧ a = S.length ∧ 0 = 0)
  obtain ⟨n, S1, o, T, l, h1, h2, h3, rfl, rfl⟩ := queryP_ok hq
  have hgood := scanL_good S 0
  have hcost : cost (scanL S 0).toks ≤ 2 * S.length := scanF_cost _ S 0
  generalize (scanL S 0).toks = L at *
  have hX : cost (if isT L bCount then L.tail else L) + (if isT L bCount = true then 6 else 0) ≤ cost L ∧ (if isT L bCount then L.tail else L) <:+ L := by
    cases hc : isT L bCount with
    | true =>
      have := cost_tail hc
      have h6 : bCount.data.toList.length = 5 := rfl
      simp only [if_true]
      exact ⟨by omega, List.tail_suffix L⟩
    | false =>
      simp only [Bool.false_eq_true, if_false]
      exact ⟨by omega, List.suffix_refl _⟩
  have hgX := good_suf hX.2 hgood
  obtain ⟨hsuf, hc1⟩ := orP_cost _ 32 _ _ _ hgX h1
  have hgS1 := good_suf hsuf hgX
  obtain ⟨hsuf2, hc2⟩ := orderP_cost h2
  have hc3 := limitP_cost (good_suf hsuf2 hgS1) h3
  have hqok : QOk ⟨n, o.1, o.2, l, isT L bCount⟩ := by
    refine ⟨?_, ?_⟩
    · rcases hc2 with ⟨rfl, -⟩ | ⟨h, -⟩
      · exact .inl ⟨rfl, rfl⟩
      · exact .inr h
    · rcases hc3 with ⟨h, -⟩ | ⟨h, h', -⟩
      · exact .inl h
      · exact .inr ⟨h, h'⟩
  obtain ⟨hwf, -, -⟩ := orP_wf _ 32 _ _ _ hgX h1
  have htx := text_all n.wt n (Nat.le_refl _) hwf
  have hct : cost (toksQ ⟨n, o.1, o.2, l, isT L bCount⟩) ≤ cost L := by
    have e1 : ptN 1 n = ptB n := ptN_plain (by have := tightI_pos n.kind; omega)
    rw [e1] at hc1
    unfold toksQ cntT ordT dwnT limT
    simp only [cost_append]
    have k1 : cost (if isT L bCount = true then [wTok sCount] else []) = if isT L bCount = true then 6 else 0 := by split <;> rfl
    have k4 : cost (if 0 ≤ l then [wTok sLimit, vTok l] else []) ≤ cost T := by
      rcases hc3 with ⟨rfl, rfl⟩ | ⟨h, -, h'⟩
      · rw [if_neg (by omega)]; exact Nat.le_refl _
      · rw [if_pos h]
        simp only [cost, wTok, vTok, sLimit, List.length_cons, List.length_nil]
        omega
    have k23 : cost (if o.1 = ⟨#[]⟩ then [] else [wTok sOrder, wTok o.1.data.toList]) + cost (if o.2 = true then [wTok sDown] else []) + cost T ≤ cost S1 := by
      rcases hc2 with ⟨rfl, rfl⟩ | ⟨h, h'⟩
      · simp [cost]
      · have ho : o.1 ≠ ⟨#[]⟩ := fun e => by
          rw [e, show fieldB ⟨#[]⟩ = false from by kernel_rfl] at h
          cases h
        rw [if_neg ho]
        have k3 : cost (if o.2 = true then [wTok sDown] else []) = if o.2 = true then 5 else 0 := by split <;> rfl
        rw [k3]
        simp only [cost, wTok, sOrder, List.length_cons, List.length_nil]
        omega
    rw [k1]
    omega
  have htext := print_text (q := ⟨n, o.1, o.2, l, isT L bCount⟩) htx
  have hgq := toksQ_good (q := ⟨n, o.1, o.2, l, isT L bCount⟩) htx hqok
  have hlen := joinL_cost (toksQ ⟨n, o.1, o.2, l, isT L bCount⟩)
  have hsc := scanL_joins (toksQ ⟨n, o.1, o.2, l, isT L bCount⟩) 0 hgq
  rw [htext]
  rw [parseP_of (by omega) (by rw [hsc]), hsc]
  simp only
  rw [query_back (fin := S.length) (q := ⟨n, o.1, o.2, l, isT L bCount⟩) hgX h1 hqok (joinP_sim _ 0)]
end Go.Proofs.YteilkcdbdpkbfaaDoor
