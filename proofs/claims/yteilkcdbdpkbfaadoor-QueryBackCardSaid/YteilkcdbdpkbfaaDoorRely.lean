/- A region that draws its order, shown operation by operation: each operation leaves a value of which something holds that no later operation turns. No Go text is spoken of. -/
import Derived.Test.YteilkcdbdpkbfaaDoorBase
import Derived.Orders
namespace Go.Proofs.YteilkcdbdpkbfaaDoor
open Go.RowKit

/-- What is asked of an operation: it leaves a value and a world, so that R holds of both. -/
def relyUpon (P : Program) (T : World → World → Prop) (w : World) (R : Value → World → Prop) : Result Next → Prop
  | .ok (.value u) w' => T w w' ∧ R u w'
  | .ok .skip w' => T w w' ∧ R undef w'
  | .ok (.enter f args) w' => Calls P f args w' (fun e w'' => ∃ v, e = .returned v ∧ T w w'' ∧ R v w'')
  | _ => False

/-- Operation i has been carried out: its slot holds a value of which R holds now. -/
def Done (R : Nat → Value → World → Prop) (i : Nat) (o : Oper) (t : Array Value) (w : World) : Prop := ∃ v, (∀ d, o.dst = some d → t.getD d undef = v) ∧ R i v w

/-- What an operation waits for has been carried out. -/
def depsHold (R : Nat → Value → World → Prop) (ops : List Oper) (t : Array Value) (w : World) : List Edge → Prop
  | [] => True
  | e :: rest => (Region.binds .any e = true → match ops[e.on]? with | some o => Done R e.on o t w | none => True) ∧ depsHold R ops t w rest

/-- Operation k waits for i by a chain of values. -/
def waitsOn (ops : List Oper) (i : Nat) : Nat → Nat → Bool
  | 0, k => k == i
  | f + 1, k => k == i || match ops[k]? with
    | some o => o.after.any fun e => Region.binds .any e && (match e.ground with | .data => true | _ => false) && waitsOn ops i f e.on
    | none => false
/-- Slot s is as it was when the region began, at the moment at which operation i comes up: whoever writes it waits for i. -/
def safeAt (ops : List Oper) (i s : Nat) : Bool := (List.range ops.length).all fun k => match ops[k]? with
  | some o => o.dst != some s || k == i || (o.after.any fun e => Region.binds .any e && e.on == i) || waitsOn ops i 9 k
  | none => true

/-- The goals, one for each operation. -/
def relyAll (P : Program) (T : World → World → Prop) (R : Nat → Value → World → Prop) (ops : List Oper) (a0 : Act) (w0 : World) : List Oper → Nat → Prop
  | [], _ => True
  | o :: rest, i => (∀ t w, t.size = a0.tmps.size → T w0 w → depsHold R ops t w o.after.toList → (∀ s, safeAt ops i s = true → t.getD s undef = a0.tmps.getD s undef) →
      if Region.wanted o (yielded ops.toArray t) then relyUpon P T w (R i) ((execOp (Act.eval ⟨t, a0.defers⟩) o).run P w) else R i undef w) ∧ relyAll P T R ops a0 w0 rest (i + 1)

/-- The form of the region: each operation waits for earlier ones alone, and no two write one slot. -/
def relyForm (ops : List Oper) (n : Nat) : Bool := (List.range ops.length).all fun i => match ops[i]? with
  | some o => (o.after.all fun e => e.on < i) && (match o.dst with
    | some d => decide (d < n) && (List.range ops.length).all fun k => k == i || match ops[k]? with | some ok => ok.dst != some d | none => true
    | none => true)
  | none => true

theorem depsHold_of {R : Nat → Value → World → Prop} {ops : List Oper} {t : Array Value} {w : World} : ∀ (l : List Edge), (∀ e ∈ l, Region.binds .any e = true → ∀ o, ops[e.on]? = some o → Done R e.on o t w) → depsHold R ops t w l
  | [], _ => trivial
  | e :: rest, h => ⟨fun hb => by
      cases ho : ops[e.on]? with
      | none => trivial
      | some o => exact h e (by simp) hb o ho, depsHold_of rest (fun e' he' => h e' (by simp [he']))⟩

section
variable {P : Program} {T : World → World → Prop} {R : Nat → Value → World → Prop} {ops : List Oper} {a0 : Act} {w0 : World}

theorem relyAll_at : ∀ (l : List Oper) (k : Nat), relyAll P T R ops a0 w0 l k → ∀ i o, l[i]? = some o → ∀ t w, t.size = a0.tmps.size → T w0 w → depsHold R ops t w o.after.toList →
    (∀ s, safeAt ops (k + i) s = true → t.getD s undef = a0.tmps.getD s undef) →
    if Region.wanted o (yielded ops.toArray t) then relyUpon P T w (R (k + i)) ((execOp (Act.eval ⟨t, a0.defers⟩) o).run P w) else R (k + i) undef w
  | [], _, _, i, o, hi => by simp at hi
  | x :: rest, k, h, i, o, hi => by
    cases i with
    | zero =>
      simp at hi
      subst hi
      exact h.1
    | succ i =>
      have := relyAll_at rest (k + 1) h.2 i o (by simpa using hi)
      rwa [show k + 1 + i = k + (i + 1) by omega] at this

structure RelyInv (T : World → World → Prop) (R : Nat → Value → World → Prop) (ops : List Oper) (a0 : Act) (w0 : World) (listed : Array Bool) (t : Array Value) (w : World) : Prop where
  lsize : listed.size = ops.length
  tsize : t.size = a0.tmps.size
  grown : T w0 w
  done : ∀ i o, ops[i]? = some o → listed.getD i true = true → Done R i o t w
  closed : ∀ i o, ops[i]? = some o → listed.getD i true = true → ∀ e ∈ o.after, Region.binds .any e = true → listed.getD e.on true = true
  frame : ∀ s, (∀ k ok, ops[k]? = some ok → ok.dst = some s → listed.getD k true = false) → t.getD s undef = a0.tmps.getD s undef

theorem waits_closed {ops : List Oper} {listed : Array Bool} {i : Nat} (hc : ∀ k o, ops[k]? = some o → listed.getD k true = true → ∀ e ∈ o.after, Region.binds .any e = true → listed.getD e.on true = true) :
    ∀ (f k : Nat), waitsOn ops i f k = true → listed.getD k true = true → listed.getD i true = true
  | 0, k, h, hl => by
    simp only [waitsOn, beq_iff_eq] at h
    rw [← h]; exact hl
  | f + 1, k, h, hl => by
    unfold waitsOn at h
    simp only [Bool.or_eq_true, beq_iff_eq] at h
    rcases h with h | h
    · rw [← h]; exact hl
    · cases ho : ops[k]? with
      | none => rw [ho] at h; cases h
      | some o =>
        rw [ho] at h
        obtain ⟨e, he, hb⟩ := Array.any_eq_true'.1 h
        simp only [Bool.and_eq_true] at hb
        exact waits_closed hc f e.on hb.2 (hc k o ho hl e he hb.1.1)

theorem getD_setB {listed : Array Bool} {i j : Nat} (h : i < listed.size) : (listed.setIfInBounds i true).getD j true = if i = j then true else listed.getD j true := by
  simp only [Array.getD_eq_getD_getElem?, Array.getElem?_setIfInBounds]
  by_cases e : i = j
  · subst e
    simp [h]
  · simp [e]

theorem form_at {n : Nat} (hf : relyForm ops n = true) {i : Nat} {o : Oper} (hi : ops[i]? = some o) :
    (∀ e ∈ o.after, e.on < i) ∧ ∀ d, o.dst = some d → d < n ∧ ∀ k ok, ops[k]? = some ok → k ≠ i → ok.dst ≠ some d := by
  have hlt : i < ops.length := (List.getElem?_eq_some_iff.1 hi).1
  unfold relyForm at hf
  rw [List.all_eq_true] at hf
  have h := hf i (List.mem_range.2 hlt)
  rw [hi] at h
  simp only [Bool.and_eq_true] at h
  refine ⟨fun e he => ?_, fun d hd => ?_⟩
  · have := Array.all_eq_true_iff_forall_mem.1 h.1 e he
    simpa using this
  · have h2 := h.2
    rw [hd] at h2
    simp only [Bool.and_eq_true, decide_eq_true_eq, List.all_eq_true] at h2
    refine ⟨h2.1, fun k ok hk hne => ?_⟩
    have h3 := h2.2 k (List.mem_range.2 (List.getElem?_eq_some_iff.1 hk).1)
    rw [hk] at h3
    simp [hne] at h3
    exact h3

theorem relyInv_step (htrans : ∀ a b c, T a b → T b c → T a c) (hst : ∀ i v w w', R i v w → T w w' → R i v w')
    (hf : relyForm ops a0.tmps.size = true) {listed : Array Bool} {t : Array Value} {w w' : World} {i : Nat} {o : Oper} {u : Value}
    (hI : RelyInv T R ops a0 w0 listed t w) (hi : ops[i]? = some o) (hdeps : ∀ e ∈ o.after, Region.binds .any e = true → listed.getD e.on false = true) (hT : T w w') (hR : R i u w') :
    RelyInv T R ops a0 w0 (listed.setIfInBounds i true) (Act.put ⟨t, a0.defers⟩ o.dst u).tmps w' := by
  have hlt : i < ops.length := (List.getElem?_eq_some_iff.1 hi).1
  have hil : i < listed.size := by rw [hI.lsize]; exact hlt
  have hget : ∀ s, o.dst ≠ some s → (Act.put ⟨t, a0.defers⟩ o.dst u).tmps.getD s undef = t.getD s undef := by
    intro s hs
    cases hd : o.dst with
    | none => rfl
    | some d =>
      simp only [Act.put, Array.getD_eq_getD_getElem?, Array.getElem?_setIfInBounds]
      have hne : d ≠ s := fun e => hs (by rw [hd, e])
      simp [hne]
  refine ⟨by simpa using hI.lsize, ?_, htrans _ _ _ hI.grown hT, ?_, ?_, ?_⟩
  · cases hd : o.dst with
    | none => exact hI.tsize
    | some d => simp [Act.put, hI.tsize]
  · intro j oj hj hl
    rw [getD_setB hil] at hl
    by_cases e : i = j
    · subst e
      rw [hi] at hj
      obtain rfl := Option.some.inj hj
      refine ⟨u, fun d hd => ?_, hR⟩
      have hdn := ((form_at hf hi).2 d hd).1
      simp only [hd, Act.put, Array.getD_eq_getD_getElem?, Array.getElem?_setIfInBounds]
      simp [hI.tsize, hdn]
    · rw [if_neg e] at hl
      obtain ⟨v, hv, hr⟩ := hI.done j oj hj hl
      refine ⟨v, fun d hd => ?_, hst _ _ _ _ hr hT⟩
      rw [hget d (((form_at hf hj).2 d hd).2 i o hi e)]
      exact hv d hd
  · intro j oj hj hl e he hb
    rw [getD_setB hil] at hl ⊢
    by_cases hie : i = e.on
    · rw [if_pos hie]
    · rw [if_neg hie]
      by_cases hij : i = j
      · subst hij
        rw [hi] at hj
        obtain rfl := Option.some.inj hj
        have := hdeps e he hb
        simp only [Array.getD_eq_getD_getElem?] at this ⊢
        cases h : listed[e.on]? with
        | none => rfl
        | some b => simpa [h] using this
      · rw [if_neg hij] at hl
        exact hI.closed j oj hj hl e he hb
  · intro s hs
    have hne : o.dst ≠ some s := fun hd => by
      have := hs i o hi hd
      rw [getD_setB hil, if_pos rfl] at this
      cases this
    rw [hget s hne]
    refine hI.frame s fun k ok hk hd => ?_
    have := hs k ok hk hd
    rw [getD_setB hil] at this
    by_cases e : i = k
    · rw [if_pos e] at this; cases this
    · rwa [if_neg e] at this

theorem all_listed (hf : relyForm ops a0.tmps.size = true) {listed : Array Bool} {t : Array Value} {w : World} (hI : RelyInv T R ops a0 w0 listed t w) (hr : Region.ready .any ops.toArray listed = []) :
    ∀ i, listed.getD i true = true := by
  intro i
  induction i using Nat.strongRecOn with
  | ind i ih =>
    cases h : listed.getD i true with
    | true => rfl
    | false =>
      exfalso
      have hlt : i < ops.length := by
        rw [← hI.lsize]
        rcases Nat.lt_or_ge i listed.size with h' | h'
        · exact h'
        · simp [Array.getD_eq_getD_getElem?, Array.getElem?_eq_none h'] at h
      have hm : i ∈ Region.ready .any ops.toArray listed := by
        rw [mem_ready]
        refine ⟨h, ops[i], by simp [hlt], fun e he hb => ?_⟩
        have hlt' : e.on < i := (form_at hf (List.getElem?_eq_getElem hlt)).1 e he
        have := ih e.on hlt'
        have hin : e.on < listed.size := by rw [hI.lsize]; omega
        simpa [Array.getD_eq_getD_getElem?, Array.getElem?_eq_getElem hin] using this
      rw [hr] at hm
      cases hm

theorem count_set {l : Array Bool} {i : Nat} (h : i < l.size) (hi : l.getD i true = false) : (l.setIfInBounds i true).toList.count false + 1 = l.toList.count false := by
  have hl : i < l.toList.length := by simpa using h
  rw [Array.toList_setIfInBounds, List.count_set hl]
  have e : l.toList[i] = false := by
    simpa [Array.getD_eq_getD_getElem?, Array.getElem?_eq_getElem h] using hi
  have hpos : 0 < l.toList.count false := List.count_pos_iff.2 (e ▸ List.getElem_mem hl)
  rw [e]
  simp only [beq_self_eq_true, if_true, show (true == false) = false from rfl, Bool.false_eq_true, if_false]
  omega

theorem rely_any {Q : Exit → Act → World → Prop} (hrefl : ∀ a, T a a) (htrans : ∀ a b c, T a b → T b c → T a c) (hst : ∀ i v w w', R i v w → T w w' → R i v w')
    (hf : relyForm ops a0.tmps.size = true) (hall : relyAll P T R ops a0 w0 ops 0)
    (hQ : ∀ t w, t.size = a0.tmps.size → T w0 w → (∀ i o, ops[i]? = some o → Done R i o t w) → (∀ s, (∀ (k : Nat) (ok : Oper), ops[k]? = some ok → ok.dst ≠ some s) → t.getD s undef = a0.tmps.getD s undef) → Q .normal ⟨t, a0.defers⟩ w) :
    ∀ (fuel : Nat) (listed : Array Bool) (t : Array Value) (w : World), listed.toList.count false ≤ fuel → RelyInv T R ops a0 w0 listed t w → wpAny P .any ops.toArray Q fuel listed ⟨t, a0.defers⟩ w := by
  have fin : ∀ (listed : Array Bool) (t : Array Value) (w : World), RelyInv T R ops a0 w0 listed t w → Region.ready .any ops.toArray listed = [] → Q .normal ⟨t, a0.defers⟩ w := by
    intro listed t w hI hr
    have ha := all_listed hf hI hr
    refine hQ t w hI.tsize hI.grown (fun i o hi => hI.done i o hi (ha i)) fun s hs => hI.frame s fun k ok hk hd => absurd hd (hs k ok hk)
  intro fuel
  induction fuel with
  | zero =>
    intro listed t w hc hI
    have hr : Region.ready .any ops.toArray listed = [] := by
      apply List.eq_nil_iff_forall_not_mem.2
      intro i hi
      obtain ⟨h0, o, ho, _⟩ := mem_ready.1 hi
      have hlt : i < listed.size := by
        rw [hI.lsize]
        have := (Array.getElem?_eq_some_iff.1 ho).1
        simpa using this
      have := count_set hlt h0
      omega
    exact ⟨hr, fin _ _ _ hI hr⟩
  | succ fuel ih =>
    intro listed t w hc hI
    refine ⟨fun hr => fin _ _ _ hI hr, fun i hi => ?_⟩
    obtain ⟨h0, o, ho, hdeps⟩ := mem_ready.1 hi
    have hio : ops[i]? = some o := by simpa using ho
    have hlt : i < listed.size := by rw [hI.lsize]; exact (List.getElem?_eq_some_iff.1 hio).1
    have hcs := count_set hlt h0
    have hon : ∀ e ∈ o.after, Region.binds .any e = true → listed.getD e.on true = true := fun e he hb => by
      have := hdeps e he hb
      simp only [Array.getD_eq_getD_getElem?] at this ⊢
      cases h : listed[e.on]? with
      | none => rfl
      | some b => simpa [h] using this
    have hgo := relyAll_at ops 0 hall i o hio t w hI.tsize hI.grown
      (depsHold_of _ fun e he hb oj hj => hI.done e.on oj hj (hon e (by simpa using he) hb))
      (fun s hs => hI.frame s fun k ok hk hd => by
        unfold safeAt at hs
        rw [List.all_eq_true] at hs
        have h1 := hs k (List.mem_range.2 (List.getElem?_eq_some_iff.1 hk).1)
        rw [hk, Nat.zero_add] at h1
        simp only [hd, bne_self_eq_false, Bool.false_or, Bool.or_eq_true, beq_iff_eq] at h1
        rcases h1 with (h1 | h1) | h1
        · rw [h1]; exact h0
        · obtain ⟨e, he, hb⟩ := Array.any_eq_true'.1 h1
          simp only [Bool.and_eq_true, beq_iff_eq] at hb
          cases hl : listed.getD k true with
          | false => rfl
          | true =>
            have := hI.closed k ok hk hl e he hb.1
            rw [hb.2, h0] at this
            cases this
        · cases hl : listed.getD k true with
          | false => rfl
          | true =>
            have := waits_closed hI.closed 9 k h1 hl
            rw [h0] at this
            cases this)
    rw [Nat.zero_add] at hgo
    unfold wpOp
    rw [ho]
    simp only []
    split at hgo
    · rename_i hw
      rw [if_pos hw]
      left
      unfold Oper.wp
      generalize hr : (execOp (Act.eval ⟨t, a0.defers⟩) o).run P w = r at hgo
      have next : ∀ u w', T w w' → R i u w' → wpAny P .any ops.toArray Q fuel (listed.setIfInBounds i true) (Act.put ⟨t, a0.defers⟩ o.dst u) w' := by
        intro u w' hT hR
        have h := ih (listed.setIfInBounds i true) _ w' (by omega) (relyInv_step htrans hst hf hI hio hdeps hT hR)
        have e : (⟨(Act.put ⟨t, a0.defers⟩ o.dst u).tmps, a0.defers⟩ : Act) = Act.put ⟨t, a0.defers⟩ o.dst u := by cases o.dst <;> rfl
        rwa [e] at h
      cases r with
      | halt x w' => simp only [relyUpon] at hgo
      | ok n w' =>
        cases n with
        | value u => exact next u w' hgo.1 hgo.2
        | skip => exact next undef w' hgo.1 hgo.2
        | enter f args =>
          simp only [relyUpon] at hgo
          exact Calls.mono hgo fun e w'' ⟨v, he, hT, hR⟩ => by subst he; exact next v w'' hT hR
        | defer d => simp only [relyUpon] at hgo
        | row r args => simp only [relyUpon] at hgo
        | _ => simp only [relyUpon] at hgo
    · rename_i hw
      rw [if_neg hw]
      have h := ih (listed.setIfInBounds i true) _ w (by omega) (relyInv_step htrans hst hf hI hio hdeps (u := undef) (hrefl w) hgo)
      have e : (⟨(Act.put ⟨t, a0.defers⟩ o.dst undef).tmps, a0.defers⟩ : Act) = Act.put ⟨t, a0.defers⟩ o.dst undef := by cases o.dst <;> rfl
      rwa [e] at h

/-- **A region that draws its order**, operation by operation: 'T': how the world may have gone on (blocks laid, draws made ..); 'R i': what operation i's value keeps, however the world goes on. -/
theorem wp_region_rely {id : Nat} {Q : Exit → Act → World → Prop} {l : List Oper} (T : World → World → Prop) (R : Nat → Value → World → Prop) (hm : P.follows .mixedOrders = true)
    (hrefl : ∀ a, T a a) (htrans : ∀ a b c, T a b → T b c → T a c) (hst : ∀ i v w w', R i v w → T w w' → R i v w') (hdraw : T w0 w0.drew)
    (hf : relyForm l a0.tmps.size = true) (hall : relyAll P T R l a0 w0 l 0)
    (hQ : ∀ t w, t.size = a0.tmps.size → T w0 w → (∀ i o, l[i]? = some o → Done R i o t w) → (∀ s, (∀ (k : Nat) (ok : Oper), l[k]? = some ok → ok.dst ≠ some s) → t.getD s undef = a0.tmps.getD s undef) → Q .normal ⟨t, a0.defers⟩ w) :
    (Code.region id l.toArray true).wp P Q a0 w0 := by
  refine wp_region_any hm ?_
  have h := rely_any (Q := Q) hrefl htrans hst hf hall hQ l.length (Array.replicate l.length false) a0.tmps w0.drew (by simp)
    ⟨by simp, rfl, hdraw, fun i o hi hl => ?_, fun i o hi hl => ?_, fun _ _ => rfl⟩
  · simpa using h
  all_goals
    have hlt : i < l.length := (List.getElem?_eq_some_iff.1 hi).1
    simp [Array.getD_eq_getD_getElem?, hlt] at hl
end

/-! ### In use: the world grows; what a value keeps is given with the proof that it keeps it -/
/-- The world may have new blocks, and draws made; nothing that was there has turned. -/
def Grow (a b : World) : Prop := Below a.heap.size a b
theorem Grow.refl (a : World) : Grow a a := Below.refl _ _
theorem Grow.trans {a b c : World} (h : Grow a b) (k : Grow b c) : Grow a c := Below.trans h (Below.mono k (Below.size h))
theorem Grow.drew (a : World) : Grow a a.drew := (Below.refl _ a).drew
theorem Grow.alloc (a : World) (o : Obj) : Grow a (a.alloc o) := (Below.refl _ a).alloc (Nat.le_refl _) o
theorem Grow.heap {a b : World} (h : Grow a b) {g : Nat} {o : Obj} (hg : a.heap[g]? = some o) : b.heap[g]? = some o := heap_old h (heap_lt hg) hg
theorem Grow.below {a b : World} (h : Grow a b) {B : Nat} (hB : B ≤ a.heap.size) : Below B a b := Below.mono h hB

theorem Grow.cells {a b : World} (h : Grow a b) : ∀ g o, g < a.heap.size → b.cell? ⟨g, o, none⟩ = a.cell? ⟨g, o, none⟩ := fun _ _ hg => Below.cell h (p := ⟨_, _, none⟩) hg
theorem Grow.marks {a b : World} (h : Grow a b) : ∀ g o, g < a.heap.size → b.frozen? ⟨g, o, none⟩ = a.frozen? ⟨g, o, none⟩ := fun _ _ hg => Below.frozen h (p := ⟨_, _, none⟩) hg

/-- What a value keeps while the world grows. -/
structure Per where
  p : Value → World → Prop
  st : ∀ v w w', p v w → Grow w w' → p v w'
/-- Nothing. -/
def Per.any : Per := ⟨fun _ _ => True, fun _ _ _ _ _ => trivial⟩
/-- It is this value. -/
def Per.eq (c : Value) : Per := ⟨fun v _ => v = c, fun _ _ _ h _ => h⟩
/-- It is a slice of a block of just these cells, all of them. -/
def Per.row (cs : Array Value) (e : TypeId) (n : Nat) : Per :=
  ⟨fun v w => ∃ g, v = .slice (some ⟨g, 0, none⟩) n n ∧ w.heap[g]? = some (.cells cs e (0, 0)), fun _ _ _ ⟨g, h1, h2⟩ hg => ⟨g, h1, hg.heap h2⟩⟩
/-- Something that speaks of the value alone. -/
def Per.of (q : Value → Prop) : Per := ⟨fun v _ => q v, fun _ _ _ h _ => h⟩

def perAt (rs : List Per) (i : Nat) : Value → World → Prop := (rs.getD i Per.any).p

/-- What operation o has left in its slot. -/
def Did (R : Value → World → Prop) (o : Oper) (t : Array Value) (w : World) : Prop := match o.dst with
  | some d => R (t.getD d undef) w
  | none => ∃ v, R v w
theorem did_iff {R : Nat → Value → World → Prop} {i : Nat} {o : Oper} {t : Array Value} {w : World} : Done R i o t w ↔ Did (R i) o t w := by
  unfold Done Did
  cases o.dst with
  | none => exact ⟨fun ⟨v, _, h⟩ => ⟨v, h⟩, fun ⟨v, h⟩ => ⟨v, (fun d hd => by simp at hd), h⟩⟩
  | some d =>
    constructor
    · rintro ⟨v, h, hr⟩
      show R i (t.getD d undef) w
      rw [h d rfl]
      exact hr
    · intro h
      exact ⟨_, (fun d' hd => by rw [← Option.some.inj hd]), h⟩

/-- What the operations that o waits for have left. -/
def depsDid (rs : List Per) (ops : List Oper) (t : Array Value) (w : World) : List Edge → Prop
  | [] => True
  | e :: rest => (match ops[e.on]? with | some o => Did (perAt rs e.on) o t w | none => True) ∧ depsDid rs ops t w rest
theorem depsDid_of {rs : List Per} {ops : List Oper} {t : Array Value} {w : World} : ∀ (l : List Edge), (∀ e ∈ l, Region.binds .any e = true) → depsHold (perAt rs) ops t w l → depsDid rs ops t w l
  | [], _, _ => trivial
  | e :: rest, hb, h => ⟨by
      have h1 := h.1 (hb e (by simp))
      cases ho : ops[e.on]? with
      | none => trivial
      | some o => rw [ho] at h1; exact did_iff.1 h1, depsDid_of rest (fun e' he' => hb e' (by simp [he'])) h.2⟩

def relyGoals (P : Program) (rs : List Per) (ops : List Oper) (a0 : Act) (w0 : World) : List Oper → Nat → Prop
  | [], _ => True
  | o :: rest, i => (∀ t w, t.size = a0.tmps.size → Grow w0 w → depsDid rs ops t w o.after.toList → (∀ s, safeAt ops i s = true → t.getD s undef = a0.tmps.getD s undef) →
      if Region.wanted o (yielded ops.toArray t) then relyUpon P Grow w (perAt rs i) ((execOp (Act.eval ⟨t, a0.defers⟩) o).run P w) else perAt rs i undef w) ∧ relyGoals P rs ops a0 w0 rest (i + 1)

theorem relyAll_of {P : Program} {rs : List Per} {ops : List Oper} {a0 : Act} {w0 : World} : ∀ (l : List Oper) (i : Nat), (∀ o ∈ l, ∀ e ∈ o.after.toList, Region.binds .any e = true) → relyGoals P rs ops a0 w0 l i → relyAll P Grow (perAt rs) ops a0 w0 l i
  | [], _, _, _ => trivial
  | o :: rest, i, hb, h => ⟨fun t w h1 h2 h3 h4 => h.1 t w h1 h2 (depsDid_of _ (hb o (by simp)) h3) h4, relyAll_of rest (i + 1) (fun o' ho' => hb o' (by simp [ho'])) h.2⟩

/-- What is left to show behind the region. -/
def relyEnd (K : Act → World → Prop) (w : World) : List Oper → List Per → Act → Prop
  | [], _, a => K a w
  | o :: rest, rs, a => ∀ v, (rs.headD Per.any).p v w → relyEnd K w rest rs.tail (a.put o.dst v)

theorem relyEnd_use {K : Act → World → Prop} {w : World} {rs : List Per} {t : Array Value} {ds : List Deferred} : ∀ (l : List Oper) (k : Nat) (a : Act), a.defers = ds → a.tmps.size = t.size →
    (∀ i o, l[i]? = some o → Did (perAt rs (k + i)) o t w) → (∀ s, (∀ (j : Nat) (o : Oper), l[j]? = some o → o.dst ≠ some s) → t.getD s undef = a.tmps.getD s undef) →
    relyEnd K w l (rs.drop k) a → K ⟨t, ds⟩ w
  | [], _, a, hd, hs, _, hfr, h => by
    have e : a = ⟨t, ds⟩ := by
      obtain ⟨at_, ad⟩ := a
      simp only at hd hs hfr
      subst hd
      congr 1
      apply Array.ext_getElem?
      intro s
      have := hfr s (fun j o hj => by simp at hj)
      simp only [Array.getD_eq_getD_getElem?] at this
      by_cases hlt : s < t.size
      · rw [Array.getElem?_eq_getElem hlt, Array.getElem?_eq_getElem (by omega)] at this ⊢
        simpa using this.symm
      · rw [Array.getElem?_eq_none (by omega), Array.getElem?_eq_none (by omega)]
    rw [← e]
    exact h
  | o :: rest, k, a, hd, hs, hdone, hfr, h => by
    have h0 := hdone 0 o rfl
    rw [Nat.add_zero] at h0
    have hp : (rs.drop k).headD Per.any = rs.getD k Per.any := by
      rw [List.headD_eq_head?_getD, List.head?_drop]
      simp [List.getD]
    have ht : (rs.drop k).tail = rs.drop (k + 1) := by rw [List.tail_drop]
    have hdone' : ∀ i o', rest[i]? = some o' → Did (perAt rs (k + 1 + i)) o' t w := fun i o' hi => by
      have := hdone (i + 1) o' (by simpa using hi)
      rwa [show k + (i + 1) = k + 1 + i by omega] at this
    unfold relyEnd at h
    rw [hp, ht] at h
    cases hdst : o.dst with
    | none =>
      unfold Did at h0
      rw [hdst] at h0
      obtain ⟨v, hv⟩ := h0
      have h1 := h v hv
      rw [hdst] at h1
      refine relyEnd_use rest (k + 1) _ hd hs hdone' (fun s hss => ?_) h1
      exact hfr s fun j o' hj => by
        cases j with
        | zero => simp at hj; subst hj; rw [hdst]; simp
        | succ j => exact hss j o' (by simpa using hj)
    | some d =>
      unfold Did at h0
      rw [hdst] at h0
      have h1 := h _ h0
      rw [hdst] at h1
      refine relyEnd_use rest (k + 1) (a.put (some d) (t.getD d undef)) hd (by simpa [Act.put] using hs) hdone' (fun s hss => ?_) h1
      simp only [Act.put, Array.getD_eq_getD_getElem?, Array.getElem?_setIfInBounds]
      by_cases e : d = s
      · subst e
        by_cases hlt : d < a.tmps.size
        · simp [hlt]
        · have : t[d]? = none := Array.getElem?_eq_none (by rw [← hs]; exact Nat.le_of_not_lt hlt)
          simp [hlt, this]
      · rw [if_neg e]
        have := hfr s fun j o' hj => by
          cases j with
          | zero => simp at hj; subst hj; rw [hdst]; simpa using e
          | succ j => exact hss j o' (by simpa using hj)
        simpa [Array.getD_eq_getD_getElem?] using this

/-- **A region that draws its order, in use.** -/
theorem wp_rely {P : Program} {id : Nat} {Q : Exit → Act → World → Prop} {l : List Oper} {a0 : Act} {w0 : World} (rs : List Per) (hm : P.follows .mixedOrders = true)
    (hf : relyForm l a0.tmps.size = true) (hb : (l.all fun o => o.after.toList.all fun e => Region.binds .any e) = true)
    (hall : relyGoals P rs l a0 w0 l 0) (hQ : ∀ w, Grow w0 w → relyEnd (Q .normal) w l rs a0) : (Code.region id l.toArray true).wp P Q a0 w0 := by
  refine wp_region_rely Grow (perAt rs) hm Grow.refl (fun _ _ _ => Grow.trans) (fun i v w w' => (rs.getD i Per.any).st v w w') (Grow.drew _) hf (relyAll_of _ _ ?_ hall) ?_
  · intro o ho e he
    rw [List.all_eq_true] at hb
    have := hb o ho
    rw [List.all_eq_true] at this
    exact this e he
  · intro t w hs hg hd hfr
    refine relyEnd_use l 0 a0 rfl hs.symm (fun i o hi => ?_) hfr (by rw [List.drop_zero]; exact hQ w hg)
    rw [Nat.zero_add]
    exact did_iff.1 (hd i o hi)

/-- 'string(b)' of a block of one byte. -/
theorem conv_row1 {P : Program} {src e dst : TypeId} (hs : P.underlying src = some (.slice e)) (he : P.underlying e = some (.int .u8)) (hd : P.underlying dst = some .string) (w : World) (g : Nat) (b : UInt8)
    (h : w.heap[g]? = some (.cells #[.int .u8 (b.toNat : Int)] e (0, 0))) : (convert src dst (.slice (some ⟨g, 0, none⟩) 1 1)).run P w = .ok (.string ⟨[b].toArray⟩) w :=
  conv_bytes hs he hd g 0 1 [b] 1 rfl fun j hj => by
    have e : j = 0 := by simpa using hj
    subst e
    rw [heap_cell h]
    rfl

/-- What a guard's operation has yielded. -/
theorem yielded_of {ops : Array Oper} {t : Array Value} {j d : Nat} {b : Bool} (ho : (ops[j]?).bind (·.dst) = some d) (h : t[d]?.getD undef = .bool b) : yielded ops t j = some b := by
  unfold yielded
  rw [ho]
  simp only [Option.bind_some]
  cases ht : t[d]? with
  | none => rw [ht] at h; simp [undef] at h
  | some v =>
    rw [ht] at h
    simp at h
    rw [h]
end Go.Proofs.YteilkcdbdpkbfaaDoor
