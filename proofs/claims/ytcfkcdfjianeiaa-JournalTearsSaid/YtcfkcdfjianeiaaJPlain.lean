/- A head as bytes, and which head bytes are. No Go text is spoken of. -/
import Derived.Test.YtcfkcdfjianeiaaBitsPlain
namespace Go.Proofs.Ytcfkcdfjianeiaa
open Go.RowKit
set_option linter.unusedVariables false
set_option linter.unusedSimpArgs false
/-- A head: its numbers, as the program holds them. -/
structure HeadR where
  seq : Nat
  used : Int
  room : Int
  pages : Int
/-- A number as one of 64 bits without a sign. -/
def uN (x : Int) : Nat := (x % 18446744073709551616).toNat
theorem uN_lt (x : Int) : uN x < 18446744073709551616 := by unfold uN; omega
theorem uN_wrap (x : Int) : x % 18446744073709551616 = (uN x : Int) := by unfold uN; omega
def headL (h : HeadR) : List UInt8 := leB 8 h.seq ++ leB 4 (uN h.used) ++ leB 4 (uN h.room) ++ leB 4 (uN h.pages)
theorem headL_length (h : HeadR) : (headL h).length = 20 := by simp [headL, leB_length]
def writeL (h : HeadR) : List UInt8 := headL h ++ notL (headL h)
theorem writeL_length (h : HeadR) : (writeL h).length = 40 := by simp [writeL, notL_length, headL_length]
def atL (L : List UInt8) (i : Nat) : Int := leV ((L.drop i).take 4)
def headOf (L : List UInt8) : HeadR := ⟨leV (L.take 8), atL L 8, atL L 12, atL L 16⟩
def okL (L : List UInt8) : Bool := decide (40 ≤ L.length) && decide (notL (L.take 20) = (L.drop 20).take 20)
def zeroH : HeadR := ⟨0, 0, 0, 0⟩
def readL (L : List UInt8) : HeadR := if okL L then headOf L else zeroH
theorem leB_mod (k n : Nat) : leB k (n % 256 ^ k) = leB k n := by
  have h := leB_leV (leB k n)
  rw [leB_length, leV_leB] at h
  exact h
theorem take_app {a b : List UInt8} {n : Nat} (h : a.length = n) : (a ++ b).take n = a := by rw [← h]; exact List.take_left
theorem drop_app {a b : List UInt8} {n : Nat} (h : a.length = n) : (a ++ b).drop n = b := by rw [← h]; exact List.drop_left
/-- A head that is written is read, whatever stands behind it. -/
theorem read_write (h : HeadR) (hs : h.seq < 18446744073709551616) (h1 : 0 ≤ h.used ∧ h.used < 4294967296) (h2 : 0 ≤ h.room ∧ h.room < 4294967296) (h3 : 0 ≤ h.pages ∧ h.pages < 4294967296) (rest : List UInt8) :
    okL (writeL h ++ rest) = true ∧ readL (writeL h ++ rest) = h := by
  have e0 : (writeL h ++ rest).take 20 = headL h := by unfold writeL; rw [List.append_assoc]; exact take_app (headL_length h)
  have e1 : ((writeL h ++ rest).drop 20).take 20 = notL (headL h) := by unfold writeL; rw [List.append_assoc, drop_app (headL_length h)]; exact take_app (by rw [notL_length, headL_length])
  have ok : okL (writeL h ++ rest) = true := by
    unfold okL
    rw [e0, e1]
    simp [writeL_length]
  refine ⟨ok, ?_⟩
  unfold readL
  rw [if_pos ok]
  have u : ∀ x : Int, 0 ≤ x ∧ x < 4294967296 → ((uN x % 256 ^ 4 : Nat) : Int) = x := fun x hx => by unfold uN; omega
  have f0 : (writeL h ++ rest).take 8 = leB 8 h.seq := by
    unfold writeL headL
    simp only [List.append_assoc]
    exact take_app (leB_length 8 _)
  have d8 : (writeL h ++ rest).drop 8 = leB 4 (uN h.used) ++ (leB 4 (uN h.room) ++ (leB 4 (uN h.pages) ++ (notL (headL h) ++ rest))) := by
    unfold writeL headL
    simp only [List.append_assoc]
    exact drop_app (leB_length 8 _)
  have d12 : (writeL h ++ rest).drop 12 = leB 4 (uN h.room) ++ (leB 4 (uN h.pages) ++ (notL (headL h) ++ rest)) := by
    rw [show 12 = 8 + 4 from rfl, ← List.drop_drop, d8]
    exact drop_app (leB_length 4 _)
  have d16 : (writeL h ++ rest).drop 16 = leB 4 (uN h.pages) ++ (notL (headL h) ++ rest) := by
    rw [show 16 = 12 + 4 from rfl, ← List.drop_drop, d12]
    exact drop_app (leB_length 4 _)
  unfold headOf atL
  rw [f0, d8, d12, d16, take_app (leB_length 4 _), take_app (leB_length 4 _), take_app (leB_length 4 _), leV_leB, leV_leB, leV_leB, leV_leB]
  obtain ⟨seq, used, room, pages⟩ := h
  simp only [HeadR.mk.injEq]
  exact ⟨Nat.mod_eq_of_lt hs, u _ h1, u _ h2, u _ h3⟩
theorem notL_inj {a b : List UInt8} (h : notL a = notL b) : a = b := by
  have key : ∀ x : UInt8, UInt8.ofNat (255 - (UInt8.ofNat (255 - x.toNat)).toNat) = x := fun x => by
    have hx := x.toNat_lt
    have e : (UInt8.ofNat (255 - x.toNat)).toNat = 255 - x.toNat := by simp; omega
    rw [e]
    apply UInt8.toNat_inj.1
    simp
    omega
  have inv : ∀ l : List UInt8, notL (notL l) = l := fun l => by
    unfold notL
    rw [List.map_map]
    conv => rhs; rw [← List.map_id l]
    exact List.map_congr_left fun x _ => key x
  rw [← inv a, ← inv b, h]
theorem notL_append (a b : List UInt8) : notL (a ++ b) = notL a ++ notL b := by simp [notL]
theorem notL_take (a : List UInt8) (k : Nat) : notL (a.take k) = (notL a).take k := by simp [notL, List.map_take]
theorem notL_drop (a : List UInt8) (k : Nat) : notL (a.drop k) = (notL a).drop k := by simp [notL, List.map_drop]
/-- Of two heads, one over the other, the first bytes of one: one of both, or none. -/
theorem tear (p q : List UInt8) (hp : p.length = 20) (hq : q.length = 20) (k : Nat) (hk : k ≤ 40)
    (h : okL ((p ++ notL p).take k ++ (q ++ notL q).drop k) = true) : (p ++ notL p).take k ++ (q ++ notL q).drop k = p ++ notL p ∨ (p ++ notL p).take k ++ (q ++ notL q).drop k = q ++ notL q := by
  unfold okL at h
  rw [Bool.and_eq_true, decide_eq_true_eq, decide_eq_true_eq] at h
  have h2 := h.2
  clear h
  by_cases hk2 : k ≤ 20
  · right
    have e1 : (p ++ notL p).take k = p.take k := by rw [List.take_append_of_le_length (by omega)]
    have e2 : (q ++ notL q).drop k = q.drop k ++ notL q := by rw [List.drop_append_of_le_length (by omega)]
    rw [e1, e2, ← List.append_assoc] at h2 ⊢
    have hl : (p.take k ++ q.drop k).length = 20 := by simp; omega
    have hq20 : (notL q).take 20 = notL q := List.take_of_length_le (by rw [notL_length]; omega)
    rw [take_app hl, drop_app hl, hq20] at h2
    rw [notL_inj h2]
  · left
    have e1 : (p ++ notL p).take k = p ++ (notL p).take (k - 20) := by rw [List.take_append, List.take_of_length_le (by omega), hp]
    have e2 : (q ++ notL q).drop k = (notL q).drop (k - 20) := by rw [List.drop_append, List.drop_eq_nil_of_le (by omega), List.nil_append, hq]
    rw [e1, e2, List.append_assoc] at h2 ⊢
    have hl2 : ((notL p).take (k - 20) ++ (notL q).drop (k - 20)).length = 20 := by simp [notL_length]; omega
    rw [take_app hp, drop_app hp, List.take_of_length_le (by omega)] at h2
    rw [← h2]
end Go.Proofs.Ytcfkcdfjianeiaa
