/- What a query is, in plain lists of signs: nodes, reading. No Go text is spoken of. -/
import Derived.Test.YteilkcdbdpkbfaaDoorLexToks
import Derived.Test.YteilkcdbdpkbfaaDoorQSmall
namespace Go.Proofs.YteilkcdbdpkbfaaDoor
open Go.RowKit
set_option linter.unusedVariables false
set_option linter.unusedSimpArgs false

/-- A node. -/
inductive NodeR where
  | mk (kind : Int) (kids : List NodeR) (field sign : ByteArray) (value : Int)
def NodeR.kind : NodeR → Int | .mk k _ _ _ _ => k
def NodeR.kids : NodeR → List NodeR | .mk _ l _ _ _ => l
def NodeR.field : NodeR → ByteArray | .mk _ _ f _ _ => f
def NodeR.sign : NodeR → ByteArray | .mk _ _ _ s _ => s
def NodeR.value : NodeR → Int | .mk _ _ _ _ x => x
def NodeR.zero : NodeR := .mk 0 [] ⟨#[]⟩ ⟨#[]⟩ 0
/-- A query. -/
structure QueryR where
  whr : NodeR
  order : ByteArray
  down : Bool
  limit : Int
  count : Bool
def QueryR.zero : QueryR := ⟨.zero, ⟨#[]⟩, false, 0, false⟩
/-- What was read, and the signs behind it; or a fault, and where. -/
inductive PR (α : Type) where
  | ok (a : α) (rest : List Tok)
  | bad (e : Nat) (at_ : Nat)
def Tok.str (t : Tok) : ByteArray := ⟨t.text.toArray⟩
/-- The next sign's text is this. -/
def isT (L : List Tok) (s : ByteArray) : Bool := match L with
  | [] => false
  | t :: _ => t.str.toList == s.toList
def failE (e : Nat) (L : List Tok) : Nat := match L with
  | [] => if e = 41 then 42 else e
  | _ :: _ => e
def failAt (fin : Nat) (L : List Tok) : Nat := match L with
  | [] => fin
  | t :: _ => t.pos
def failP {α : Type} (fin e : Nat) (L : List Tok) : PR α := .bad (failE e L) (failAt fin L)
def bOr : ByteArray := ⟨#[111, 114]⟩
def bAnd : ByteArray := ⟨#[97, 110, 100]⟩
def bNot : ByteArray := ⟨#[110, 111, 116]⟩
def bAll : ByteArray := ⟨#[97, 108, 108]⟩
def bOpen : ByteArray := ⟨#[40]⟩
def bShut : ByteArray := ⟨#[41]⟩
def bOverlaps : ByteArray := ⟨#[111, 118, 101, 114, 108, 97, 112, 115]⟩
def bBefore : ByteArray := ⟨#[98, 101, 102, 111, 114, 101]⟩
def bAfter : ByteArray := ⟨#[97, 102, 116, 101, 114]⟩
def bEq : ByteArray := ⟨#[61]⟩
def bNe : ByteArray := ⟨#[33, 61]⟩
def bCount : ByteArray := ⟨#[99, 111, 117, 110, 116]⟩
def bOrder : ByteArray := ⟨#[111, 114, 100, 101, 114]⟩
def bDown : ByteArray := ⟨#[100, 111, 119, 110]⟩
def bLimit : ByteArray := ⟨#[108, 105, 109, 105, 116]⟩
/-- More parts, each behind the word between. -/
def moreP (between : ByteArray) (part : List Tok → PR NodeR) : Nat → List Tok → List NodeR → PR (List NodeR)
  | 0, L, acc => .ok acc L
  | f + 1, L, acc =>
    if isT L between then
      match part L.tail with
      | .ok n R => moreP between part f R (acc ++ [n])
      | .bad e p => .bad e p
    else .ok acc L
/-- Parts with a word between. -/
def listP (kind : Int) (between : ByteArray) (part : List Tok → PR NodeR) (L : List Tok) : PR NodeR :=
  match part L with
  | .bad e p => .bad e p
  | .ok n R =>
    if isT R between then
      match moreP between part R.length R [n] with
      | .bad e p => .bad e p
      | .ok l S => .ok (.mk kind l ⟨#[]⟩ ⟨#[]⟩ 0) S
    else .ok n R
/-- A comparison. -/
def compareP (fin : Nat) (L : List Tok) : PR NodeR := match L with
  | [] => failP fin 41 []
  | t :: L1 =>
    if fieldB t.str = true then
      if isT L1 bOpen || isT L1 bShut then failP fin 41 L1
      else match L1 with
        | [] => failP fin 41 []
        | m :: L2 =>
          if m.kind = 3 then
            match L2 with
            | [] => failP fin 41 []
            | v :: L3 =>
              if v.kind = 3 then failP fin 41 (v :: L3)
              else if namesB t.str ≠ (valueQ t.str v.str).2 ∨ ((valueQ t.str v.str).2 = false ∧ v.kind ≠ 2) ∨ ((valueQ t.str v.str).2 = true ∧ m.str ≠ bEq ∧ m.str ≠ bNe) then failP fin 43 (v :: L3)
              else .ok (.mk 4 [] t.str m.str (if (valueQ t.str v.str).2 = true then (valueQ t.str v.str).1 else v.num)) L3
          else failP fin 41 (m :: L2)
    else failP fin 41 (t :: L1)
/-- How a node lies to an operation: the word is there. -/
def nearP (fin : Nat) (L : List Tok) : PR NodeR := match L with
  | [] => failP fin 41 []
  | t :: L1 => match L1 with
    | [] => failP fin 41 []
    | v :: L2 => if v.kind = 2 then .ok (.mk 5 [] t.str ⟨#[]⟩ v.num) L2 else failP fin 41 (v :: L2)
/-- A part, so deep at most. -/
def partP (fin : Nat) : Nat → List Tok → PR NodeR
  | 0, L => failP fin 44 L
  | d + 1, L =>
    if isT L bNot then
      match partP fin d L.tail with
      | .ok n R => .ok (.mk 3 [n] ⟨#[]⟩ ⟨#[]⟩ 0) R
      | .bad e p => .bad e p
    else if isT L bAll then .ok (.mk 6 [] ⟨#[]⟩ ⟨#[]⟩ 0) L.tail
    else if isT L bOpen then
      match listP 1 bOr (listP 2 bAnd (partP fin d)) L.tail with
      | .ok n R => if isT R bShut then .ok n R.tail else failP fin 41 R
      | .bad e p => .bad e p
    else if isT L bOverlaps || isT L bBefore || isT L bAfter then nearP fin L
    else compareP fin L
def andP (fin d : Nat) (L : List Tok) : PR NodeR := listP 2 bAnd (partP fin d) L
def orP (fin d : Nat) (L : List Tok) : PR NodeR := listP 1 bOr (andP fin d) L
/-- What stands behind the condition: the order. -/
def orderP (fin : Nat) (L : List Tok) : PR (ByteArray × Bool) :=
  if isT L bOrder then
    match L.tail with
    | [] => failP fin 41 []
    | t :: L1 => if fieldB t.str = true then .ok (t.str, isT L1 bDown) (if isT L1 bDown then L1.tail else L1) else failP fin 41 (t :: L1)
  else .ok (⟨#[]⟩, false) L
/-- The limit. -/
def limitP (fin : Nat) (L : List Tok) : PR Int :=
  if isT L bLimit then
    match L.tail with
    | [] => failP fin 41 []
    | t :: L1 => if t.num < 0 then failP fin 43 (t :: L1) else if t.kind = 2 then .ok t.num L1 else failP fin 41 (t :: L1)
  else .ok (-1) L
def endP {α : Type} (fin : Nat) (a : α) (L : List Tok) : PR α := match L with
  | [] => .ok a []
  | _ :: _ => failP fin 41 L
/-- A query. -/
def queryP (fin : Nat) (L : List Tok) : PR QueryR :=
  match orP fin 32 (if isT L bCount then L.tail else L) with
  | .bad e p => .bad e p
  | .ok n R => match orderP fin R with
    | .bad e p => .bad e p
    | .ok o S => match limitP fin S with
      | .bad e p => .bad e p
      | .ok l T => endP fin ⟨n, o.1, o.2, l, isT L bCount⟩ T
/-- A text is read as: the query, where, the error. -/
structure ParseR where
  q : QueryR
  at_ : Nat
  e : Nat
def parseP (s : List UInt8) : ParseR :=
  if 4096 < s.length then ⟨.zero, 0, 2⟩
  else if (scanL s 0).err ≠ 0 then ⟨.zero, (scanL s 0).stop, (scanL s 0).err⟩
  else match queryP s.length (scanL s 0).toks with
    | .ok q _ => ⟨q, s.length, 0⟩
    | .bad e p => ⟨.zero, p, e⟩

/-- Signs are left, or fewer. -/
theorem moreP_len (b : ByteArray) (part : List Tok → PR NodeR) (hp : ∀ L n R, part L = .ok n R → R.length ≤ L.length) : ∀ (f : Nat) (L : List Tok) (acc l : List NodeR) (S : List Tok), moreP b part f L acc = .ok l S → S.length ≤ L.length
  | 0, L, acc, l, S, h => by
    simp only [moreP, PR.ok.injEq] at h
    rw [h.2]; exact Nat.le_refl _
  | f + 1, L, acc, l, S, h => by
    simp only [moreP] at h
    split at h
    · split at h
      · rename_i n R hr
        have h1 := moreP_len b part hp f R _ l S h
        have h2 := hp _ _ _ hr
        rw [List.length_tail] at h2
        omega
      · cases h
    · simp only [PR.ok.injEq] at h
      rw [h.2]; exact Nat.le_refl _
/-- More rounds than signs change nothing. -/
theorem moreP_more (b : ByteArray) (part : List Tok → PR NodeR) (hp : ∀ L n R, part L = .ok n R → R.length ≤ L.length) : ∀ (f : Nat) (L : List Tok) (acc : List NodeR), L.length ≤ f → moreP b part (f + 1) L acc = moreP b part f L acc
  | 0, L, acc, h => by
    obtain rfl : L = [] := List.eq_nil_of_length_eq_zero (by omega)
    simp [moreP, isT]
  | f + 1, L, acc, h => by
    rw [moreP]
    conv => rhs; rw [moreP]
    split
    · rename_i ht
      have hL : 0 < L.length := by cases L with | nil => simp [isT] at ht | cons a l => simp
      split
      · rename_i n R hr
        have h2 := hp _ _ _ hr
        rw [List.length_tail] at h2
        exact moreP_more b part hp f R _ (by omega)
      · rfl
    · rfl
theorem moreP_any (b : ByteArray) (part : List Tok → PR NodeR) (hp : ∀ L n R, part L = .ok n R → R.length ≤ L.length) (L : List Tok) (acc : List NodeR) : ∀ f, L.length ≤ f → moreP b part f L acc = moreP b part L.length L acc := by
  intro f h
  induction f with
  | zero => rw [show L.length = 0 from by omega]
  | succ f ih =>
    rcases Nat.lt_or_ge f L.length with h1 | h1
    · rw [show L.length = f + 1 from by omega]
    · rw [moreP_more b part hp f L acc h1, ih h1]
theorem listP_len (k : Int) (b : ByteArray) (part : List Tok → PR NodeR) (hp : ∀ L n R, part L = .ok n R → R.length ≤ L.length) (L : List Tok) (n : NodeR) (R : List Tok) (h : listP k b part L = .ok n R) : R.length ≤ L.length := by
  unfold listP at h
  split at h
  · cases h
  · rename_i n0 R0 h0
    have h1 := hp _ _ _ h0
    split at h
    · split at h
      · cases h
      · rename_i l S hs
        have h2 := moreP_len b part hp _ _ _ _ _ hs
        cases h
        omega
    · cases h
      exact h1
theorem partP_len (fin : Nat) : ∀ (d : Nat) (L : List Tok) (n : NodeR) (R : List Tok), partP fin d L = .ok n R → R.length ≤ L.length
  | 0, L, n, R, h => by simp [partP, failP] at h
  | d + 1, L, n, R, h => by
    unfold partP at h
    split at h
    · split at h
      · rename_i n1 R1 h1
        have := partP_len fin d _ _ _ h1
        rw [List.length_tail] at this
        cases h
        omega
      · cases h
    · split at h
      · cases h
        rw [List.length_tail]; omega
      · split at h
        · split at h
          · rename_i n1 R1 h1
            have := listP_len _ _ _ (fun L n R => listP_len _ _ _ (partP_len fin d) L n R) _ _ _ h1
            rw [List.length_tail] at this
            split at h
            · cases h
              rw [List.length_tail]; omega
            · simp [failP] at h
          · cases h
        · split at h
          · unfold nearP at h
            split at h
            · simp [failP] at h
            · split at h
              · simp [failP] at h
              · split at h
                · cases h
                  simp
                  omega
                · simp [failP] at h
          · unfold compareP at h
            split at h
            · simp [failP] at h
            · split at h
              · split at h
                · simp [failP] at h
                · split at h
                  · simp [failP] at h
                  · split at h
                    · split at h
                      · simp [failP] at h
                      · split at h
                        · simp [failP] at h
                        · split at h
                          · simp [failP] at h
                          · cases h
                            simp
                            omega
                    · simp [failP] at h
              · simp [failP] at h
theorem andP_len (fin d : Nat) (L : List Tok) (n : NodeR) (R : List Tok) (h : andP fin d L = .ok n R) : R.length ≤ L.length := listP_len _ _ _ (partP_len fin d) _ _ _ h
theorem orP_len (fin d : Nat) (L : List Tok) (n : NodeR) (R : List Tok) (h : orP fin d L = .ok n R) : R.length ≤ L.length := listP_len _ _ _ (andP_len fin d) _ _ _ h
theorem moreP_step (b : ByteArray) (part : List Tok → PR NodeR) (hp : ∀ L n R, part L = .ok n R → R.length ≤ L.length) (L : List Tok) (acc : List NodeR) (ht : isT L b = true) {n : NodeR} {R : List Tok} (h : part L.tail = .ok n R) :
    moreP b part L.length L acc = moreP b part R.length R (acc ++ [n]) := by
  have hL : 0 < L.length := by cases L with | nil => simp [isT] at ht | cons a l => simp
  have h2 := hp _ _ _ h
  rw [List.length_tail] at h2
  obtain ⟨f, hf⟩ : ∃ f, L.length = f + 1 := ⟨L.length - 1, by omega⟩
  rw [hf, moreP, if_pos ht, h]
  exact moreP_any b part hp R _ f (by omega)
theorem moreP_bad (b : ByteArray) (part : List Tok → PR NodeR) (L : List Tok) (acc : List NodeR) (ht : isT L b = true) {e p : Nat} (h : part L.tail = .bad e p) :
    moreP b part L.length L acc = .bad e p := by
  have hL : 0 < L.length := by cases L with | nil => simp [isT] at ht | cons a l => simp
  obtain ⟨f, hf⟩ : ∃ f, L.length = f + 1 := ⟨L.length - 1, by omega⟩
  rw [hf, moreP, if_pos ht, h]
theorem moreP_end (b : ByteArray) (part : List Tok → PR NodeR) (L : List Tok) (acc : List NodeR) (ht : isT L b = false) : moreP b part L.length L acc = .ok acc L := by
  cases h : L.length with
  | zero => rfl
  | succ f => rw [moreP, if_neg (by simp [ht])]
end Go.Proofs.YteilkcdbdpkbfaaDoor
