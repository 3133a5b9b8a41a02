/- Plain laws on keys: lists of numbers as texts, the order of both, what is past a text. -/
import Derived.Test.YtnohdicnofffdaaBitsPlain
namespace Go.Proofs.Ytnohdicnofffdaa

/-- A key of numbers. -/
def ofL (xs : List Int) : List UInt8 := xs.flatMap ordL
/-- Does a list of numbers stand ahead of another one? -/
def beforeL : List Int → List Int → Bool
  | _, [] => false
  | [], _ :: _ => true
  | x :: xs, y :: ys => if x = y then beforeL xs ys else decide (x < y)
/-- The numbers of a key, so many. -/
def splitN : Nat → List UInt8 → List Int
  | 0, _ => []
  | n+1, l => unordV (l.take 8) :: splitN n (l.drop 8)
def splitL (l : List UInt8) : List Int := splitN (l.length / 8) l

theorem ofL_snoc (xs : List Int) (x : Int) : ofL (xs ++ [x]) = ofL xs ++ ordL x := by simp [ofL]
theorem ofL_length (xs : List Int) : (ofL xs).length = 8 * xs.length := by
  induction xs with
  | nil => rfl
  | cons x xs ih => simp only [ofL, List.flatMap_cons, List.length_append, ordL_length] at *; simp [ih]; omega

theorem bytesLess_append : ∀ (p q x y : List UInt8), p.length = q.length → Op.bytesLess (p ++ x) (q ++ y) = (Op.bytesLess p q || (p == q && Op.bytesLess x y))
  | [], [], x, y, _ => by simp [Op.bytesLess]
  | [], _ :: _, _, _, h => by simp at h
  | _ :: _, [], _, _, h => by simp at h
  | a :: p, b :: q, x, y, h => by
    have ih := bytesLess_append p q x y (by simpa using h)
    simp only [List.cons_append, Op.bytesLess, ih]
    by_cases e : a = b
    · subst e
      simp
    · have e1 : (a == b) = false := beq_eq_false_iff_ne.2 e
      have e2 : (a :: p == b :: q) = false := by
        apply beq_eq_false_iff_ne.2
        intro h
        exact e (List.cons.inj h).1
      simp [e1, e2]

def inR (n : Int) : Prop := -9223372036854775808 ≤ n ∧ n ≤ 9223372036854775807
theorem ofL_less : ∀ (xs ys : List Int), (∀ n ∈ xs, inR n) → (∀ n ∈ ys, inR n) → Op.bytesLess (ofL xs) (ofL ys) = beforeL xs ys
  | [], [], _, _ => rfl
  | [], y :: ys, _, _ => by
    have hl := ordL_length y
    cases h : ordL y with
    | nil => rw [h] at hl; simp at hl
    | cons b l => simp [ofL, h, Op.bytesLess, beforeL]
  | x :: xs, [], _, _ => by
    cases h : ofL (x :: xs) <;> simp [ofL, Op.bytesLess, beforeL]
  | x :: xs, y :: ys, hx, hy => by
    have ih := ofL_less xs ys (fun n hn => hx n (by simp [hn])) (fun n hn => hy n (by simp [hn]))
    have h1 := hx x (by simp)
    have h2 := hy y (by simp)
    have e : ∀ (z : Int) (zs : List Int), ofL (z :: zs) = ordL z ++ ofL zs := fun z zs => by simp [ofL]
    rw [e, e, bytesLess_append _ _ _ _ (by rw [ordL_length, ordL_length]), ih, ordL_less x y h1.1 h1.2 h2.1 h2.2, ordL_eq x y h1.1 h1.2 h2.1 h2.2, beforeL]
    by_cases hxy : x = y
    · subst hxy
      simp
    · simp [hxy]
theorem ofL_inj : ∀ (xs ys : List Int), (∀ n ∈ xs, inR n) → (∀ n ∈ ys, inR n) → ofL xs = ofL ys → xs = ys
  | [], [], _, _, _ => rfl
  | [], y :: ys, _, _, h => by
    have := congrArg List.length h
    rw [ofL_length, ofL_length] at this
    simp at this
  | x :: xs, [], _, _, h => by
    have := congrArg List.length h
    rw [ofL_length, ofL_length] at this
    simp at this
  | x :: xs, y :: ys, hx, hy, h => by
    have e : ∀ (z : Int) (zs : List Int), ofL (z :: zs) = ordL z ++ ofL zs := fun z zs => by simp [ofL]
    rw [e, e] at h
    obtain ⟨h1, h2⟩ := List.append_inj h (by rw [ordL_length, ordL_length])
    have a := hx x (by simp)
    have b := hy y (by simp)
    have hxy : x = y := by rw [← unordV_ordL x a.1 a.2, h1, unordV_ordL y b.1 b.2]
    rw [hxy, ofL_inj xs ys (fun n hn => hx n (by simp [hn])) (fun n hn => hy n (by simp [hn])) h2]
theorem beforeL_irrefl (xs : List Int) : beforeL xs xs = false := by
  induction xs with
  | nil => rfl
  | cons x xs ih => simp [beforeL, ih]
theorem beforeL_total : ∀ (xs ys : List Int), beforeL xs ys = false → beforeL ys xs = false → xs = ys
  | [], [], _, _ => rfl
  | [], _ :: _, h, _ => by simp [beforeL] at h
  | _ :: _, [], _, h => by simp [beforeL] at h
  | x :: xs, y :: ys, h1, h2 => by
    rw [beforeL] at h1 h2
    by_cases e : x = y
    · subst e
      simp at h1 h2
      rw [beforeL_total xs ys h1 h2]
    · rw [if_neg e] at h1
      rw [if_neg (fun h => e h.symm)] at h2
      simp at h1 h2
      omega
theorem ints_eq (xs ys : List Int) : (!beforeL xs ys && !beforeL ys xs) = decide (xs = ys) := by
  by_cases e : xs = ys
  · subst e
    simp [beforeL_irrefl]
  · simp [e]
    intro h1
    cases h2 : beforeL ys xs with
    | true => rfl
    | false => exact absurd (beforeL_total xs ys h1 h2) e
/-- Where two lists part first. -/
theorem beforeL_drop (xs ys : List Int) (j : Nat) (h : ∀ i, i < j → xs.getD i 0 = ys.getD i 0) (hx : j ≤ xs.length) (hy : j ≤ ys.length) : beforeL xs ys = beforeL (xs.drop j) (ys.drop j) := by
  induction j generalizing xs ys with
  | zero => simp
  | succ j ih =>
    cases xs with
    | nil => simp at hx
    | cons x xs =>
      cases ys with
      | nil => simp at hy
      | cons y ys =>
        have h0 := h 0 (by omega)
        simp at h0
        subst h0
        simp only [List.drop_succ_cons, beforeL, if_pos]
        exact ih xs ys (fun i hi => by have := h (i + 1) (by omega); simpa using this) (by simpa using hx) (by simpa using hy)
theorem beforeL_at (xs ys : List Int) (j : Nat) (hx : j < xs.length) (hy : j < ys.length) (h : ∀ i, i < j → xs.getD i 0 = ys.getD i 0) (hne : xs.getD j 0 ≠ ys.getD j 0) : beforeL xs ys = decide (xs.getD j 0 < ys.getD j 0) := by
  rw [beforeL_drop xs ys j h (by omega) (by omega), List.drop_eq_getElem_cons hx, List.drop_eq_getElem_cons hy, beforeL]
  have e1 : xs.getD j 0 = xs[j] := by simp [List.getD, hx]
  have e2 : ys.getD j 0 = ys[j] := by simp [List.getD, hy]
  rw [e1, e2] at hne ⊢
  rw [if_neg hne]
theorem beforeL_end (xs ys : List Int) (j : Nat) (hx : j ≤ xs.length) (hy : j ≤ ys.length) (h : ∀ i, i < j → xs.getD i 0 = ys.getD i 0) (he : j = xs.length ∨ j = ys.length) : beforeL xs ys = decide (xs.length < ys.length) := by
  rw [beforeL_drop xs ys j h hx hy]
  rcases he with he | he
  · have : xs.drop j = [] := List.drop_eq_nil_of_le (by omega)
    rw [this]
    cases hd : ys.drop j with
    | nil =>
      have := congrArg List.length hd
      rw [List.length_drop] at this
      simp [beforeL] at this ⊢
      omega
    | cons y l =>
      have := congrArg List.length hd
      rw [List.length_drop] at this
      simp [beforeL] at this ⊢
      omega
  · have : ys.drop j = [] := List.drop_eq_nil_of_le (by omega)
    rw [this]
    have : ¬ xs.length < ys.length := by omega
    cases xs.drop j <;> simp [beforeL, this]

theorem splitN_length (n : Nat) : ∀ l, (splitN n l).length = n := by
  induction n with
  | zero => intro l; rfl
  | succ n ih => intro l; simp [splitN, ih]
theorem splitN_snoc (n : Nat) : ∀ l, splitN (n + 1) l = splitN n l ++ [unordV ((l.drop (8 * n)).take 8)] := by
  induction n with
  | zero => intro l; simp [splitN]
  | succ n ih =>
    intro l
    rw [splitN, ih (l.drop 8), splitN, List.drop_drop, show 8 + 8 * n = 8 * (n + 1) by omega]
    rfl
theorem splitN_inR (n : Nat) : ∀ l, 8 * n ≤ l.length → ∀ x ∈ splitN n l, inR x := by
  induction n with
  | zero => intro l _ x hx; simp [splitN] at hx
  | succ n ih =>
    intro l hl x hx
    rw [splitN, List.mem_cons] at hx
    rcases hx with rfl | hx
    · exact unordV_bd _ (by rw [List.length_take]; omega)
    · exact ih (l.drop 8) (by rw [List.length_drop]; omega) x hx
theorem ofL_splitN (n : Nat) : ∀ l, l.length = 8 * n → ofL (splitN n l) = l := by
  induction n with
  | zero => intro l hl; simp at hl; subst hl; rfl
  | succ n ih =>
    intro l hl
    have e : ∀ (z : Int) (zs : List Int), ofL (z :: zs) = ordL z ++ ofL zs := fun z zs => by simp [ofL]
    rw [splitN, e, ordL_unordV _ (by rw [List.length_take]; omega), ih _ (by rw [List.length_drop]; omega), List.take_append_drop]
theorem splitN_ofL : ∀ (xs : List Int), (∀ n ∈ xs, inR n) → splitN xs.length (ofL xs) = xs
  | [], _ => rfl
  | x :: xs, h => by
    have e : ofL (x :: xs) = ordL x ++ ofL xs := by simp [ofL]
    have hl := ordL_length x
    have hx := h x (by simp)
    have t : (ordL x ++ ofL xs).take 8 = ordL x := by rw [← hl]; exact List.take_left
    have d : (ordL x ++ ofL xs).drop 8 = ofL xs := by rw [← hl]; exact List.drop_left
    rw [List.length_cons, splitN, e, t, d, unordV_ordL x hx.1 hx.2, splitN_ofL xs (fun n hn => h n (by simp [hn]))]

/-! ### What is past a text -/
def pastR : List UInt8 → List UInt8
  | [] => []
  | b :: r => if b.toNat < 255 then UInt8.ofNat (b.toNat + 1) :: r else pastR r
def pastL (l : List UInt8) : List UInt8 := (pastR l.reverse).reverse
theorem pastL_nil : pastL [] = [] := rfl
theorem pastL_small (l : List UInt8) (b : UInt8) (h : b.toNat < 255) : pastL (l ++ [b]) = l ++ [UInt8.ofNat (b.toNat + 1)] := by simp [pastL, pastR, h]
theorem pastL_255 (l : List UInt8) (b : UInt8) (h : ¬ b.toNat < 255) : pastL (l ++ [b]) = pastL l := by simp [pastL, pastR, h]
theorem pastL_length (l : List UInt8) : (pastL l).length ≤ l.length := by
  have : ∀ r : List UInt8, (pastR r).length ≤ r.length := by
    intro r
    induction r with
    | nil => simp [pastR]
    | cons b r ih => unfold pastR; split <;> simp; omega
  have := this l.reverse
  simpa [pastL] using this
theorem pastR_snoc (r : List UInt8) (b : UInt8) : pastR (r ++ [b]) = if pastR r = [] then (if b.toNat < 255 then [UInt8.ofNat (b.toNat + 1)] else []) else pastR r ++ [b] := by
  induction r with
  | nil => simp [pastR]
  | cons c r ih =>
    simp only [List.cons_append, pastR]
    by_cases h : c.toNat < 255
    · simp [h]
    · simp [h, ih]
theorem pastL_cons (b : UInt8) (l : List UInt8) : pastL (b :: l) = if pastL l = [] then (if b.toNat < 255 then [UInt8.ofNat (b.toNat + 1)] else []) else b :: pastL l := by
  unfold pastL
  rw [List.reverse_cons, pastR_snoc]
  by_cases h : pastR l.reverse = []
  · have h' : (pastR l.reverse).reverse = [] := by rw [h]; rfl
    rw [if_pos h, if_pos h']
    split <;> rfl
  · rw [if_neg h, if_neg (fun e => h (by have := congrArg List.reverse e; simpa using this))]
    simp
/-- Does a text begin with another one? -/
def underB (s f : List UInt8) : Bool := decide (f.length ≤ s.length) && (s.take f.length == f)
theorem bytesLess_nil (s : List UInt8) : Op.bytesLess s [] = false := by cases s <;> rfl
theorem front_law : ∀ (f s : List UInt8), (!Op.bytesLess s f && (pastL f == [] || Op.bytesLess s (pastL f))) = underB s f
  | [], s => by simp [bytesLess_nil, pastL_nil, underB]
  | b :: f, [] => by simp [Op.bytesLess, underB]
  | b :: f, c :: s => by
    have ih := front_law f s
    have hb := b.toNat_lt
    have hc := c.toNat_lt
    have hu : underB (c :: s) (b :: f) = (c == b && underB s f) := by
      by_cases e : c = b
      · subst e; simp [underB]
      · have e1 : (c == b) = false := beq_eq_false_iff_ne.2 e
        have e2 : ((c :: s).take (b :: f).length == b :: f) = false := by
          apply beq_eq_false_iff_ne.2
          intro h
          simp at h
          exact e h.1
        simp only [underB, e1, e2, Bool.and_false, Bool.false_and]
    rw [hu, pastL_cons]
    rcases Nat.lt_trichotomy c.toNat b.toNat with h1 | h1 | h1
    · have e1 : decide (c < b) = true := by simp [UInt8.lt_iff_toNat_lt, h1]
      have e2 : (c == b) = false := by apply beq_eq_false_iff_ne.2; intro e; rw [e] at h1; omega
      simp [Op.bytesLess, e1, e2]
    · have e : c = b := UInt8.toNat_inj.1 h1
      subst e
      have e1 : decide (c < c) = false := by simp
      by_cases hp : pastL f = []
      · rw [hp] at ih
        have ih : (!Op.bytesLess s f) = underB s f := by rw [← ih]; simp
        rw [if_pos hp]
        by_cases h255 : c.toNat < 255
        · have e3 : decide (c < UInt8.ofNat (c.toNat + 1)) = true := by
            rw [decide_eq_true_eq, UInt8.lt_iff_toNat_lt]
            have : (UInt8.ofNat (c.toNat + 1)).toNat = c.toNat + 1 := by simp; omega
            omega
          rw [if_pos h255]
          simp only [Op.bytesLess, e1, e3, Bool.false_or, beq_self_eq_true, Bool.true_and, Bool.true_or, Bool.or_true, Bool.and_true]
          exact ih
        · rw [if_neg h255]
          simp only [Op.bytesLess, e1, Bool.false_or, beq_self_eq_true, Bool.true_and, Bool.true_or, Bool.and_true]
          exact ih
      · rw [if_neg hp]
        have e4 : (pastL f == []) = false := beq_eq_false_iff_ne.2 hp
        have e5 : (c :: pastL f == []) = false := by simp
        rw [e4] at ih
        rw [e5]
        simp only [Op.bytesLess, e1, Bool.false_or, beq_self_eq_true, Bool.true_and] at ih ⊢
        exact ih
    · have e1 : decide (c < b) = false := by simp [UInt8.lt_iff_toNat_lt]; omega
      have e2 : (c == b) = false := by apply beq_eq_false_iff_ne.2; intro e; rw [e] at h1; omega
      have e3 : ∀ l, Op.bytesLess (c :: s) (b :: l) = false := fun l => by simp [Op.bytesLess, e1, e2]
      rw [e3, e2]
      by_cases hp : pastL f = []
      · rw [if_pos hp, if_pos (by omega)]
        have e4 : decide (c < UInt8.ofNat (b.toNat + 1)) = false := by
          rw [decide_eq_false_iff_not, UInt8.lt_iff_toNat_lt]
          have : (UInt8.ofNat (b.toNat + 1)).toNat = b.toNat + 1 := by simp; omega
          omega
        have e5 : Op.bytesLess (c :: s) [UInt8.ofNat (b.toNat + 1)] = false := by
          rw [Op.bytesLess, bytesLess_nil, Bool.and_false, Bool.or_false]
          exact e4
        rw [e5]
        simp
      · rw [if_neg hp, e3]
        simp
end Go.Proofs.Ytnohdicnofffdaa
