/- The signs of a text, in plain lists: letters, digits, marks, the number of digits, the next sign, all signs. No Go text is spoken of. -/
import Derived.Test.YteilkcdbdpkbfaaDoorBase
namespace Go.Proofs.YteilkcdbdpkbfaaDoor
open Go.RowKit
set_option linter.unusedVariables false
set_option linter.unusedSimpArgs false

/-- A sign: its kind, its text, its number, where it stands. -/
structure Tok where
  kind : Nat
  text : List UInt8
  num : Int
  pos : Nat

def isLet (b : UInt8) : Bool := 97 ≤ b.toNat && b.toNat ≤ 122
def isDig (b : UInt8) : Bool := 48 ≤ b.toNat && b.toNat ≤ 57
def isBl (b : UInt8) : Bool := b.toNat == 32 || b.toNat == 10
def lets (L : List UInt8) : Nat := (L.takeWhile isLet).length
def digs (L : List UInt8) : Nat := (L.takeWhile isDig).length
def hd (L : List UInt8) : Nat := (L.headD 0).toNat
/-- How many bytes the mark has that a text begins with. -/
def markN (L : List UInt8) : Nat :=
  if (hd L = 33 ∨ hd L = 60 ∨ hd L = 62) ∧ hd (L.drop 1) = 61 then 2
  else if hd L = 61 ∨ hd L = 60 ∨ hd L = 62 ∨ hd L = 40 ∨ hd L = 41 then 1 else 0
/-- The number of digits, from one on; none: it is too great. -/
def valF : List UInt8 → Nat → Option Nat
  | [], a => some a
  | b :: l, a => if 10 * a + (b.toNat - 48) > 1099511627776 then none else valF l (10 * a + (b.toNat - 48))
/-- What a text begins with: nothing that may be; or a sign of this kind, so long, with this number. -/
inductive St where
  | bad (e : Nat)
  | tok (kind len : Nat) (n : Int)
def minusN (L : List UInt8) : Nat := if hd L = 45 then 1 else 0
def digsM (L : List UInt8) : Nat := digs (L.drop (minusN L))
def stepT (L : List UInt8) : St :=
  if 0 < lets L then .tok 1 (lets L) 0
  else if 0 < digsM L then
    match valF ((L.drop (minusN L)).take (digsM L)) 0 with
    | none => .bad 2
    | some v => .tok 2 (minusN L + digsM L) (if minusN L = 1 then -(v : Int) else (v : Int))
  else if 0 < markN L then .tok 3 (markN L) 0
  else .bad 40

/-- All signs, where the reading stopped, the error. -/
structure Sc where
  toks : List Tok
  stop : Nat
  err : Nat
def Sc.cons (acc : List Tok) (r : Sc) : Sc := if r.err = 0 then ⟨acc ++ r.toks, r.stop, 0⟩ else ⟨[], r.stop, r.err⟩
def scanF : Nat → List UInt8 → Nat → Sc
  | 0, _, i => ⟨[], i, 0⟩
  | _ + 1, [], i => ⟨[], i, 0⟩
  | f + 1, b :: l, i =>
    if isBl b then scanF f l (i + 1)
    else match stepT (b :: l) with
      | .bad e => ⟨[], i, e⟩
      | .tok k n v => Sc.cons [⟨k, (b :: l).take n, v, i⟩] (scanF f ((b :: l).drop n) (i + n))
def scanL (L : List UInt8) (i : Nat) : Sc := scanF L.length L i
/-- What is handed back of a text. -/
def scan (L : List UInt8) : Sc := if 4096 < L.length then ⟨[], 0, 2⟩ else scanL L 0

theorem Sc.cons_cons (a b : List Tok) (r : Sc) : Sc.cons a (Sc.cons b r) = Sc.cons (a ++ b) r := by
  unfold Sc.cons
  by_cases h : r.err = 0 <;> simp [h]
theorem Sc.cons_nil (i : Nat) (a : List Tok) : Sc.cons a ⟨[], i, 0⟩ = ⟨a, i, 0⟩ := by simp [Sc.cons]

theorem takeWhile_len_le (p : UInt8 → Bool) : ∀ L : List UInt8, (L.takeWhile p).length ≤ L.length
  | [] => by simp
  | b :: l => by
    have := takeWhile_len_le p l
    by_cases h : p b <;> simp [List.takeWhile_cons, h]; omega
theorem lets_le (L : List UInt8) : lets L ≤ L.length := takeWhile_len_le _ L
theorem digs_le (L : List UInt8) : digs L ≤ L.length := takeWhile_len_le _ L
theorem markN_le (L : List UInt8) : markN L ≤ L.length := by
  cases L with
  | nil => simp [markN, hd]
  | cons a l =>
    unfold markN
    split
    · rename_i h
      cases l with
      | nil => exact absurd h.2 (by simp [hd])
      | cons b l => simp only [List.length_cons]; omega
    · split <;> simp only [List.length_cons] <;> omega
theorem digsM_le (L : List UInt8) : digsM L + minusN L ≤ L.length ∨ L = [] := by
  cases L with
  | nil => right; rfl
  | cons a l =>
    left
    have := digs_le ((a :: l).drop (minusN (a :: l)))
    rw [List.length_drop] at this
    have h1 : minusN (a :: l) ≤ 1 := by unfold minusN; split <;> omega
    unfold digsM
    simp only [List.length_cons] at *
    omega
theorem minusN_le (L : List UInt8) : minusN L ≤ 1 := by unfold minusN; split <;> omega
/-- A sign is no empty text, and no longer than what is there. -/
theorem stepT_len {L : List UInt8} {k n : Nat} {v : Int} (hL : L ≠ []) (h : stepT L = .tok k n v) : 0 < n ∧ n ≤ L.length := by
  unfold stepT at h
  have h1 := lets_le L
  have h2 := markN_le L
  rcases digsM_le L with h3 | h3
  · split at h
    · injection h with _ e _; omega
    · split at h
      · split at h
        · cases h
        · injection h with _ e _; omega
      · split at h
        · injection h with _ e _; omega
        · cases h
  · exact absurd h3 hL

theorem lets_pos {L : List UInt8} : 0 < lets L ↔ isLet (L.headD 0) = true := by
  unfold lets
  cases L with
  | nil => simp; decide
  | cons a l => by_cases ha : isLet a <;> simp [List.takeWhile_cons, ha]
theorem digs_pos {L : List UInt8} : 0 < digs L ↔ isDig (L.headD 0) = true := by
  unfold digs
  cases L with
  | nil => simp; decide
  | cons a l => by_cases ha : isDig a <;> simp [List.takeWhile_cons, ha]
theorem take_takeWhile (p : UInt8 → Bool) : ∀ L : List UInt8, L.take (L.takeWhile p).length = L.takeWhile p
  | [] => rfl
  | b :: l => by
    by_cases h : p b
    · simp [List.takeWhile_cons, h, take_takeWhile p l]
    · simp [List.takeWhile_cons, h]
theorem all_takeWhile (p : UInt8 → Bool) : ∀ (L : List UInt8), ∀ b ∈ L.takeWhile p, p b = true
  | [], b, h => by simp at h
  | a :: l, b, h => by
    by_cases ha : p a
    · rw [List.takeWhile_cons, if_pos ha] at h
      rcases List.mem_cons.1 h with h | h
      · rw [h]; exact ha
      · exact all_takeWhile p l b h
    · rw [List.takeWhile_cons, if_neg ha] at h
      cases h
theorem scanF_more : ∀ (f : Nat) (L : List UInt8) (i g : Nat), L.length ≤ f → L.length ≤ g → scanF f L i = scanF g L i
  | 0, L, i, g, hf, hg => by
    obtain rfl : L = [] := List.eq_nil_of_length_eq_zero (by omega)
    cases g <;> rfl
  | f + 1, [], i, g, _, _ => by cases g <;> rfl
  | f + 1, b :: l, i, 0, _, hg => by simp at hg
  | f + 1, b :: l, i, g + 1, hf, hg => by
    simp only [List.length_cons] at hf hg
    unfold scanF
    by_cases hb : isBl b
    · rw [if_pos hb, if_pos hb]
      exact scanF_more f l (i + 1) g (by omega) (by omega)
    · rw [if_neg hb, if_neg hb]
      cases hs : stepT (b :: l) with
      | bad e => rfl
      | tok k n v =>
        obtain ⟨h0, h1⟩ := stepT_len (by simp) hs
        simp only
        rw [scanF_more f ((b :: l).drop n) (i + n) g (by rw [List.length_drop, List.length_cons]; omega) (by rw [List.length_drop, List.length_cons]; omega)]
theorem scanL_nil (i : Nat) : scanL [] i = ⟨[], i, 0⟩ := rfl
theorem scanL_blank (b : UInt8) (l : List UInt8) (i : Nat) (h : isBl b = true) : scanL (b :: l) i = scanL l (i + 1) := by
  show scanF (l.length + 1) (b :: l) i = _
  unfold scanF
  rw [if_pos h]
  rfl
theorem scanL_bad (b : UInt8) (l : List UInt8) (i : Nat) (h : isBl b = false) {e : Nat} (hs : stepT (b :: l) = .bad e) : scanL (b :: l) i = ⟨[], i, e⟩ := by
  show scanF (l.length + 1) (b :: l) i = _
  unfold scanF
  rw [if_neg (by simp [h]), hs]
theorem scanL_tok (b : UInt8) (l : List UInt8) (i : Nat) (h : isBl b = false) {k n : Nat} {v : Int} (hs : stepT (b :: l) = .tok k n v) :
    scanL (b :: l) i = Sc.cons [⟨k, (b :: l).take n, v, i⟩] (scanL ((b :: l).drop n) (i + n)) := by
  show scanF (l.length + 1) (b :: l) i = _
  unfold scanF
  rw [if_neg (by simp [h]), hs]
  obtain ⟨h0, h1⟩ := stepT_len (by simp) hs
  simp only [scanL]
  rw [scanF_more l.length _ _ ((b :: l).drop n).length (by rw [List.length_drop, List.length_cons]; omega) (Nat.le_refl _)]
theorem scanF_bad : ∀ (f : Nat) (L : List UInt8) (i : Nat), (scanF f L i).err ≠ 0 → (scanF f L i).toks = []
  | 0, L, i, h => absurd rfl h
  | f + 1, [], i, h => absurd rfl h
  | f + 1, b :: l, i, h => by
    unfold scanF at h ⊢
    by_cases hb : isBl b
    · rw [if_pos hb] at h ⊢
      exact scanF_bad f _ _ h
    · rw [if_neg hb] at h ⊢
      cases hs : stepT (b :: l) with
      | bad e => rfl
      | tok k n v =>
        rw [hs] at h
        simp only [Sc.cons] at h ⊢
        split at h
        · exact absurd rfl h
        · rename_i hh; rw [if_neg hh]
theorem Sc.cons_self (r : Sc) (h : r.err ≠ 0 → r.toks = []) : Sc.cons [] r = r := by
  unfold Sc.cons
  cases r with
  | mk t s e =>
    split
    · rename_i hh; simp only at hh; simp [hh]
    · rename_i hh; simp only at hh h ⊢; rw [h hh]
theorem scanL_self (L : List UInt8) (i : Nat) : Sc.cons [] (scanL L i) = scanL L i := Sc.cons_self _ (scanF_bad _ _ _)
theorem stepT_err {L : List UInt8} {e : Nat} (h : stepT L = .bad e) : e = 2 ∨ e = 40 := by
  unfold stepT at h
  split at h
  · cases h
  · split at h
    · split at h
      · injection h with h; left; exact h.symm
      · cases h
    · split at h
      · cases h
      · injection h with h; right; exact h.symm
end Go.Proofs.YteilkcdbdpkbfaaDoor
