/- A region that draws its order: still operations first, one call that they all wait for and that all others wait for, then the rest operation by operation, from the world that the call leaves. No Go text is spoken of. -/
import Derived.Test.YthmbnffddpnehaaTextTail
import Derived.Test.YthmbnffddpnehaaRely
namespace Go.Proofs.Ythmbnffddpnehaa
open Go.RowKit Go
section
variable {P : Program} {T : World → World → Prop} {R : Nat → Value → World → Prop} {ops : List Oper} {a0 : Act} {w0 : World}
theorem rely_from {Q : Exit → Act → World → Prop} (m : Nat) (hrefl : ∀ a, T a a) (htrans : ∀ a b c, T a b → T b c → T a c) (hst : ∀ i v w w', R i v w → T w w' → R i v w')
    (hf : relyForm ops a0.tmps.size = true) (hall : relyAll P T R ops a0 w0 (ops.drop m) m)
    (hQ : ∀ t w, t.size = a0.tmps.size → T w0 w → (∀ i o, ops[i]? = some o → Done R i o t w) → (∀ s, (∀ (k : Nat) (ok : Oper), m ≤ k → ops[k]? = some ok → ok.dst ≠ some s) → t.getD s undef = a0.tmps.getD s undef) → Q .normal ⟨t, a0.defers⟩ w) :
    ∀ (fuel : Nat) (listed : Array Bool) (t : Array Value) (w : World), listed.toList.count false ≤ fuel → RelyInv T R ops a0 w0 listed t w → (∀ i, i < m → listed.getD i true = true) → (∀ s, (∀ (k : Nat) (ok : Oper), m ≤ k → ops[k]? = some ok → ok.dst = some s → listed.getD k true = false) → t.getD s undef = a0.tmps.getD s undef) → wpAny P .any ops.toArray Q fuel listed ⟨t, a0.defers⟩ w := by
  have fin : ∀ (listed : Array Bool) (t : Array Value) (w : World), RelyInv T R ops a0 w0 listed t w → (∀ s, (∀ (k : Nat) (ok : Oper), m ≤ k → ops[k]? = some ok → ok.dst = some s → listed.getD k true = false) → t.getD s undef = a0.tmps.getD s undef) → Region.ready .any ops.toArray listed = [] → Q .normal ⟨t, a0.defers⟩ w := by
    intro listed t w hI hF hr
    have ha := all_listed hf hI hr
    refine hQ t w hI.tsize hI.grown (fun i o hi => hI.done i o hi (ha i)) fun s hs => hF s fun k ok hmk hk hd => absurd hd (hs k ok hmk hk)
  intro fuel
  induction fuel with
  | zero =>
    intro listed t w hc hI hL hF
    have hr : Region.ready .any ops.toArray listed = [] := by
      apply List.eq_nil_iff_forall_not_mem.2
      intro i hi
      obtain ⟨h0, o, ho, _⟩ := mem_ready.1 hi
      have hlt : i < listed.size := by
        rw [hI.lsize]
        have := (Array.getElem?_eq_some_iff.1 ho).1
        simpa using this
      have := count_set hlt h0
      omega
    exact ⟨hr, fin _ _ _ hI hF hr⟩
  | succ fuel ih =>
    intro listed t w hc hI hL hF
    refine ⟨fun hr => fin _ _ _ hI hF hr, fun i hi => ?_⟩
    obtain ⟨h0, o, ho, hdeps⟩ := mem_ready.1 hi
    have him : m ≤ i := by
      rcases Nat.lt_or_ge i m with h | h
      · rw [hL i h] at h0; cases h0
      · exact h
    have hio : ops[i]? = some o := by simpa using ho
    have hlt : i < listed.size := by rw [hI.lsize]; exact (List.getElem?_eq_some_iff.1 hio).1
    have hcs := count_set hlt h0
    have hon : ∀ e ∈ o.after, Region.binds .any e = true → listed.getD e.on true = true := fun e he hb => by
      have := hdeps e he hb
      simp only [Array.getD_eq_getD_getElem?] at this ⊢
      cases h : listed[e.on]? with
      | none => rfl
      | some b => simpa [h] using this
    have hgo := relyAll_at (ops.drop m) m hall (i - m) o (by rw [List.getElem?_drop, show m + (i - m) = i by omega]; exact hio) t w hI.tsize hI.grown
      (depsHold_of _ fun e he hb oj hj => hI.done e.on oj hj (hon e (by simpa using he) hb))
      (fun s hs => hF s fun k ok hmk hk hd => by
        unfold safeAt at hs
        rw [List.all_eq_true] at hs
        have h1 := hs k (List.mem_range.2 (List.getElem?_eq_some_iff.1 hk).1)
        rw [hk, show m + (i - m) = i by omega] at h1
        simp only [hd, bne_self_eq_false, Bool.false_or, Bool.or_eq_true, beq_iff_eq] at h1
        rcases h1 with (h1 | h1) | h1
        · rw [h1]; exact h0
        · obtain ⟨e, he, hb⟩ := Array.any_eq_true'.1 h1
          simp only [Bool.and_eq_true, beq_iff_eq] at hb
          cases hl : listed.getD k true with
          | false => rfl
          | true =>
            have := hI.closed k ok hk hl e he hb.1
            rw [hb.2, h0] at this
            cases this
        · cases hl : listed.getD k true with
          | false => rfl
          | true =>
            have := waits_closed hI.closed 9 k h1 hl
            rw [h0] at this
            cases this)
    rw [show m + (i - m) = i by omega] at hgo
    have hL' : ∀ j, j < m → (listed.setIfInBounds i true).getD j true = true := fun j hj => by
      rw [getD_setB hlt]
      split
      · rfl
      · exact hL j hj
    unfold wpOp
    rw [ho]
    simp only []
    have hF' : ∀ u, ∀ s, (∀ (k : Nat) (ok : Oper), m ≤ k → ops[k]? = some ok → ok.dst = some s → (listed.setIfInBounds i true).getD k true = false) → (Act.put ⟨t, a0.defers⟩ o.dst u).tmps.getD s undef = a0.tmps.getD s undef := fun u s hs => by
      have hne : o.dst ≠ some s := fun e => by
        have := hs i o him hio e
        rw [getD_setB hlt, if_pos rfl] at this
        cases this
      have e1 : (Act.put ⟨t, a0.defers⟩ o.dst u).tmps.getD s undef = t.getD s undef := by
        cases hd : o.dst with
        | none => rfl
        | some d =>
          rw [hd] at hne
          have hds : d ≠ s := fun e => hne (by rw [e])
          simp only [Act.put, Array.getD_eq_getD_getElem?, Array.getElem?_setIfInBounds, if_neg hds]
      rw [e1]
      refine hF s fun k ok hmk hk hd => ?_
      have := hs k ok hmk hk hd
      rw [getD_setB hlt] at this
      split at this
      · cases this
      · exact this
    split at hgo
    · rename_i hw
      rw [if_pos hw]
      left
      unfold Oper.wp
      generalize hr : (execOp (Act.eval ⟨t, a0.defers⟩) o).run P w = r at hgo
      have next : ∀ u w', T w w' → R i u w' → wpAny P .any ops.toArray Q fuel (listed.setIfInBounds i true) (Act.put ⟨t, a0.defers⟩ o.dst u) w' := by
        intro u w' hT hR
        have e : (⟨(Act.put ⟨t, a0.defers⟩ o.dst u).tmps, a0.defers⟩ : Act) = Act.put ⟨t, a0.defers⟩ o.dst u := by cases o.dst <;> rfl
        have h := ih (listed.setIfInBounds i true) _ w' (by omega) (relyInv_step htrans hst hf hI hio hdeps hT hR) hL' (hF' u)
        rwa [e] at h
      cases r with
      | halt x w' => simp only [relyUpon] at hgo
      | ok n w' =>
        cases n with
        | value u => exact next u w' hgo.1 hgo.2
        | skip => exact next undef w' hgo.1 hgo.2
        | enter f args =>
          simp only [relyUpon] at hgo
          exact Calls.mono hgo fun e w'' ⟨v, he, hT, hR⟩ => by subst he; exact next v w'' hT hR
        | defer d => simp only [relyUpon] at hgo
        | row r args => simp only [relyUpon] at hgo
        | _ => simp only [relyUpon] at hgo
    · rename_i hw
      rw [if_neg hw]
      have e : (⟨(Act.put ⟨t, a0.defers⟩ o.dst undef).tmps, a0.defers⟩ : Act) = Act.put ⟨t, a0.defers⟩ o.dst undef := by cases o.dst <;> rfl
      have h := ih (listed.setIfInBounds i true) _ w (by omega) (relyInv_step htrans hst hf hI hio hdeps (u := undef) (hrefl w) hgo) hL' (hF' undef)
      rwa [e] at h
end
section
variable {P : Program}
/-- All behind the call wait for it, by a chain. -/
def afterB (ops : Array Oper) (n : Nat) : Bool := Region.noSelect ops && decide (n < ops.size) && Region.sinkB .any ops n && chainW .any ops n && headF ops n n 0 (Array.replicate ops.size false)
where headF (ops : Array Oper) (n : Nat) : Nat → Nat → Array Bool → Bool
  | 0, k, listed => decide (Region.ready .any ops listed = [n]) && decide (k = n)
  | f + 1, k, listed => (Region.ready .any ops listed).contains k && Region.free .any ops listed k && headF ops n f (k + 1) (listed.setIfInBounds k true)
theorem cntB : ∀ (b : List Bool) (k : Nat), (∀ j, j < k → b[j]? = some true) → b.count false ≤ b.length - k
  | [], k, _ => by simp
  | x :: b, 0, _ => by
    have := List.count_le_length (a := false) (l := x :: b)
    simpa using this
  | x :: b, k + 1, h => by
    have hx : x = true := by simpa using h 0 (by omega)
    have ih := cntB b k (fun j hj => by simpa using h (j + 1) (by omega))
    subst hx
    rw [List.count_cons]
    simp
    exact ih
theorem _root_.List.drop_append_of_le_length' (i : Nat) (rs' : List Per) : (List.replicate i Per.any ++ rs').drop (i + 1) = rs'.tail := by
  rw [List.drop_append]
  simp
theorem lists_first {ops : List Oper} : ∀ (f k : Nat) (listed : Array Bool), listed.size = ops.length → (∀ i, i < k → listed.getD i true = true) → (∀ i, k ≤ i → i < ops.length → listed.getD i true = false) → k + f ≤ ops.length →
    (∀ i, i < k + f → ((List.range' k f).foldl (fun l i => l.setIfInBounds i true) listed).getD i true = true) ∧ (∀ i, k + f ≤ i → i < ops.length → ((List.range' k f).foldl (fun l i => l.setIfInBounds i true) listed).getD i true = false) ∧ ((List.range' k f).foldl (fun l i => l.setIfInBounds i true) listed).size = ops.length
  | 0, k, listed, hs, h1, h2, _ => ⟨by simpa using h1, by simpa using h2, by simpa using hs⟩
  | f + 1, k, listed, hs, h1, h2, h3 => by
    have hk : k < listed.size := by omega
    have := lists_first f (k + 1) (listed.setIfInBounds k true) (by simpa using hs) (fun i hi => by
      rw [getD_setB hk]
      split
      · rfl
      · exact h1 i (by omega)) (fun i hi hi2 => by
      rw [getD_setB hk, if_neg (by omega)]
      exact h2 i (by omega) hi2) (by omega)
    rw [List.range'_succ, List.foldl_cons]
    rw [show k + (f + 1) = k + 1 + f by omega]
    exact this
theorem wpAnyL_F {ops : Array Oper} {w : World} {n : Nat} {Lq : Act → Prop} (hsel : Region.noSelect ops = true) (hs : Region.sinkB .any ops n = true) (hc : chainW .any ops n = true) (hn : n < ops.size) :
    ∀ (l : List Oper) (k : Nat) (listed : Array Bool) (a : Act), (∀ j, j < l.length → l[j]? = ops[k + j]?) → k + l.length = n → HeadInv .any ops n listed →
    afterB.headF ops n l.length k listed = true → wpStill P ops w Lq l a →
    wpAnyL P .any ops w n (fun listed' a' => (Region.ready .any ops listed' = [n] ∧ listed' = (List.range' k l.length).foldl (fun l i => l.setIfInBounds i true) listed) ∧ Lq a') l.length listed a
  | [], k, listed, a, _, hk, _, hB, h => by
    simp only [List.length_nil, afterB.headF, Bool.and_eq_true, decide_eq_true_eq] at hB
    exact ⟨⟨hB.1, by simp⟩, h⟩
  | o :: l, k, listed, a, hl, hk, inv, hB, h => by
    have h0 : ops[k]? = some o := by simpa using (hl 0 (by simp)).symm
    simp only [List.length_cons, afterB.headF, Bool.and_eq_true] at hB
    obtain ⟨⟨hr, hf⟩, hB'⟩ := hB
    have hkn : k < n := by simp only [List.length_cons] at hk; omega
    have hr' : k ∈ Region.ready .any ops listed := by simpa using hr
    have hst : stOp P ops w k (wpStill P ops w Lq l) a := by unfold stOp; simp only [h0]; exact h
    obtain ⟨v, hy, hK⟩ := yieldsAt_of_stOp h0 hst
    have ih := wpAnyL_F hsel hs hc hn l (k + 1) _ _ (fun j hj => by have := hl (j + 1) (by simp; omega); simpa [Nat.add_assoc, Nat.add_comm 1 j] using this) (by simp only [List.length_cons] at hk; omega) (inv.set hr' hkn) hB' hK
    rw [show (List.range' k (o :: l).length).foldl (fun l i => l.setIfInBounds i true) listed = (List.range' (k + 1) l.length).foldl (fun l i => l.setIfInBounds i true) (listed.setIfInBounds k true) by rw [List.length_cons, List.range'_succ, List.foldl_cons]]
    exact wpAnyL_firstW h0 (Region.noSelect_spec hsel) hs hc hn hkn (fun listed' a' hL j hj => (by rw [hL.1.1] at hj; have : j = n := (by simpa using hj); omega)) l.length listed a inv (Region.free_spec h0 hf) hr' hy ih
/-- What the call must leave. -/
def fromCall (P : Program) (Q : Exit → Act → World → Prop) (l : List Oper) (n : Nat) (a2 : Act) (w2 : World) : Prop := ∃ rs : List Per,
  relyForm l a2.tmps.size = true ∧ (match l[n]? with | some o => Did (perAt (List.replicate n Per.any ++ rs) n) o a2.tmps w2 | none => False) ∧
    relyGoals P (List.replicate n Per.any ++ rs) l a2 w2 (l.drop (n + 1)) (n + 1) ∧ ∀ w, Grow w2 w → relyEnd (Q .normal) w (l.drop (n + 1)) rs.tail a2
theorem perAt_head {n i : Nat} {rs : List Per} (h : i < n) : perAt (List.replicate n Per.any ++ rs) i = fun _ _ => True := by
  unfold perAt
  rw [List.getD_eq_getElem?_getD, List.getElem?_append_left (by simpa using h)]
  simp [List.getElem?_replicate, h, Per.any]
theorem wp_relyF {id : Nat} {Q : Exit → Act → World → Prop} {l : List Oper} {a0 : Act} {w0 : World} (n : Nat) (hm : P.follows .mixedOrders = true) (hB : afterB l.toArray n = true)
    (hb : (l.all fun o => o.after.toList.all fun e => Region.binds .any e) = true)
    (h : wpStill P l.toArray w0.drew (fun a1 => wpList P l.toArray (fun e a w => match e with | .normal => fromCall P Q l n a w | _ => False) ((l.drop n).take 1) a1 w0.drew) (l.take n) a0) : (Code.region id l.toArray true).wp P Q a0 w0 := by
  refine Code.wp_mono (Q := calm Q) (fun e a w h => ?_) ?_
  · cases e <;> first | exact h | exact h.elim
  simp only [afterB, Bool.and_eq_true, decide_eq_true_eq] at hB
  obtain ⟨⟨⟨⟨hsel, hn⟩, hs⟩, hc⟩, hlex⟩ := hB
  have hn' : n < l.length := by simpa using hn
  have htl : (l.take n).length = n := by simp; omega
  have inv0 : HeadInv .any l.toArray n (Array.replicate l.toArray.size false) :=
    ⟨by simp, fun j oj _ hl => (by rw [getD_replicate_false] at hl; cases hl), fun t _ ht => getD_in (by simpa using ht) (getD_replicate_false _ _)⟩
  have H := wpAnyL_F hsel hs hc hn (l.take n) 0 _ a0 (fun j hj => by
    have hj' : j < n := by rw [htl] at hj; exact hj
    simp [hj']) (by simpa using htl) inv0 (by rw [htl]; exact hlex) h
  obtain ⟨f1, f2, f3⟩ := lists_first (ops := l) n 0 (Array.replicate l.toArray.size false) (by simp) (fun i hi => by omega) (fun i _ hi => getD_in (by simpa using hi) (getD_replicate_false _ _)) (by omega)
  rw [htl] at H
  refine wp_region_any hm ?_
  have hmain := wpAny_of_head (Q' := calm Q) (g := l.length - n) (fun listed a' hL => by
    obtain ⟨⟨hr, he⟩, hw⟩ := hL
    rw [show l.length - n = (l.length - (n + 1)) + 1 by omega]
    refine ⟨fun h1 => (by rw [hr] at h1; cases h1), fun i hi => ?_⟩
    rw [hr] at hi
    obtain rfl : i = n := by simpa using hi
    have hio : l[i]? = some (l[i]'hn') := List.getElem?_eq_getElem hn'
    have hd1 : (l.drop i).take 1 = [l[i]'hn'] := by
      rw [List.drop_eq_getElem_cons hn']
      rfl
    rw [hd1] at hw
    unfold wpOp
    have ho : l.toArray[i]? = some (l[i]'hn') := by simp
    simp only [ho]
    have fin : ∀ a2 w2, fromCall P Q l i a2 w2 → wpAny P .any l.toArray (calm Q) (l.length - (i + 1)) (listed.setIfInBounds i true) a2 w2 := fun a2 w2 hK => by
      obtain ⟨rs, hf, hdid, hgo, hend⟩ := hK
      rw [hio] at hdid
      have hls : listed.size = l.length := by rw [he, f3]
      have hlsz : i < listed.size := by rw [hls]; exact hn'
      have hls2 : (listed.setIfInBounds i true).size = l.length := by rw [Array.size_setIfInBounds, hls]
      have hlt : ∀ j, j < l.length → (listed.setIfInBounds i true).getD j true = decide (j < i + 1) := fun j hj => by
        rw [getD_setB hlsz]
        by_cases e : i = j
        · subst e; simp
        · rw [if_neg e, he]
          rcases Nat.lt_or_ge j i with h | h
          · rw [f1 j (by omega)]; simp; omega
          · rw [f2 j (by omega) hj]; simp; omega
      have hcnt : (listed.setIfInBounds i true).toList.count false ≤ l.length - (i + 1) := by
        have hgen : ∀ (b : List Bool) (k : Nat), b.length = l.length → (∀ j, j < k → b[j]? = some true) → b.count false ≤ b.length - k := by
          intro b
          induction b with
          | nil => intro k _ _; simp
          | cons x b ih => intro k _ hk; exact Nat.le_trans (cntB (x :: b) k hk) (Nat.le_refl _)
        have := hgen (listed.setIfInBounds i true).toList (i + 1) (by rw [Array.length_toList, hls2]) (fun j hj => by
          have h1 := hlt j (by omega)
          rw [decide_eq_true hj] at h1
          have hjs : j < (listed.setIfInBounds i true).size := by rw [hls2]; omega
          simp only [Array.getD_eq_getD_getElem?, Array.getElem?_eq_getElem hjs, Option.getD_some] at h1
          rw [Array.getElem?_toList, Array.getElem?_eq_getElem hjs, h1])
        rwa [Array.length_toList, hls2] at this
      have hsafe := rely_from (P := P) (T := Grow) (R := perAt (List.replicate i Per.any ++ rs)) (ops := l) (a0 := a2) (w0 := w2) (Q := calm Q) (i + 1) Grow.refl (fun _ _ _ => Grow.trans) (fun j v w w' => ((List.replicate i Per.any ++ rs).getD j Per.any).st v w w') hf
        (relyAll_of _ _ (fun o ho e he => by
          rw [List.all_eq_true] at hb
          have := hb o (List.mem_of_mem_drop ho)
          rw [List.all_eq_true] at this
          exact this e he) hgo)
        (fun t w hs hg hd hfr => by
          show Q .normal ⟨t, a2.defers⟩ w
          refine relyEnd_use (rs := List.replicate i Per.any ++ rs) (l.drop (i + 1)) (i + 1) a2 rfl hs.symm (fun j o hj => ?_) (fun s hss => hfr s fun k ok hk hko => ?_) ?_
          · rw [List.getElem?_drop] at hj
            exact did_iff.1 (hd (i + 1 + j) o hj)
          · have := hss (k - (i + 1)) ok (by rw [List.getElem?_drop, show i + 1 + (k - (i + 1)) = k by omega]; exact hko)
            exact this
          · rw [List.drop_append_of_le_length' i rs]
            exact hend w hg)
        (l.length - (i + 1)) (listed.setIfInBounds i true) a2.tmps w2 hcnt
        ⟨hls2, rfl, Grow.refl _, fun j o hj hl => ?_, fun j o hj hl e hed hbi => ?_, fun _ _ => rfl⟩ (fun j hj => by rw [hlt j (by omega)]; exact decide_eq_true hj) (fun _ _ => rfl)
      · exact hsafe
      · have hjl : j < l.length := (List.getElem?_eq_some_iff.1 hj).1
        rw [hlt j hjl] at hl
        have hl' := of_decide_eq_true hl
        rcases Nat.lt_or_ge j i with h | h
        · refine did_iff.2 ?_
          rw [perAt_head h]
          unfold Did
          split
          · trivial
          · exact ⟨undef, trivial⟩
        · obtain rfl : j = i := by omega
          rw [hio] at hj
          cases hj
          exact did_iff.2 hdid
      · have hjl : j < l.length := (List.getElem?_eq_some_iff.1 hj).1
        rw [hlt j hjl] at hl
        have hl' := of_decide_eq_true hl
        have := (form_at hf hj).1 e hed
        rw [hlt e.on (by omega)]
        exact decide_eq_true (by omega)
    have hw' : if Region.wanted (l[i]'hn') (yielded l.toArray a'.tmps) then (l[i]'hn').wp P a' w0.drew (wpList P l.toArray (fun e a w => match e with | .normal => fromCall P Q l i a w | _ => False) []) (fun e a w => match e with | .normal => fromCall P Q l i a w | _ => False) ∨ ((l[i]'hn').asks P a' w0.drew ∧ LetsOut (fun e a w => match e with | .normal => fromCall P Q l i a w | _ => False)) else wpList P l.toArray (fun e a w => match e with | .normal => fromCall P Q l i a w | _ => False) [] (a'.put (l[i]'hn').dst undef) w0.drew := hw
    split
    · rename_i hwant
      rw [if_pos hwant] at hw'
      rcases hw' with h | ⟨-, a9, w9, hl9⟩
      · refine .inl ?_
        unfold Oper.wp at h ⊢
        generalize (execOp a'.eval (l[i]'hn')).run P w0.drew = r at h
        cases r with
        | ok nx w' =>
          cases nx <;> simp only [Oper.upon] at h ⊢
          case value u => exact fin _ _ h
          case skip => exact fin _ _ h
          case defer d => exact fin _ _ h
          case enter f args =>
            refine Calls.mono h fun e w'' he => ?_
            cases e with
            | returned u => exact fin _ _ he
            | panicked c => exact he.elim
            | outgrown => exact (by obtain ⟨a9, w9, hl9⟩ := he; exact hl9.elim)
          case row row args => exact Rows.mono h fun u w'' he => fin _ _ he
        | halt x w' =>
          cases x <;> simp only [Oper.upon] at h
      · exact hl9.elim
    · rename_i hwant
      rw [if_neg hwant] at hw'
      exact fin _ _ hw') _ _ _ H
  have e : l.toArray.size = n + (l.length - n) := by simp; omega
  have hm2 := hmain
  rw [← e] at hm2
  exact hm2
end
end Go.Proofs.Ythmbnffddpnehaa
