/- Pages as blocks, or what is wrong with them. No Go text is spoken of. -/
import Derived.Test.YtcfkcdfjianeiaaJPlain
namespace Go.Proofs.Ytcfkcdfjianeiaa
open Go.RowKit
set_option linter.unusedVariables false
set_option linter.unusedSimpArgs false
structure PageR where
  pos : Int
  data : ByteArray
def badP (p : PageR) : Nat := if p.pos < 0 ∨ 2048 ≤ p.pos then 10 else if 256 < p.data.size then 21 else 0
def firstBad : List PageR → Nat
  | [] => 0
  | p :: l => if badP p = 0 then firstBad l else badP p
def posL (l : List PageR) : List UInt8 := l.flatMap fun p => leB 4 p.pos.toNat
def tabL (l : List PageR) : List UInt8 := leB 4 l.length ++ posL l
def fillL (L : List UInt8) : List UInt8 := L ++ List.replicate (256 - L.length) 0
def headsN (n : Nat) : Nat := (4 * n + 259) / 256
def chunk (L : List UInt8) (j : Nat) : List UInt8 := fillL ((L.drop (256 * j)).take 256)
def blocksL (l : List PageR) : List (List UInt8) := (List.range (headsN l.length)).map (chunk (tabL l)) ++ l.map fun p => fillL p.data.data.toList
def packE (l : List PageR) : Nat := if 1024 < l.length then 2 else firstBad l
def packL (l : List PageR) : List (List UInt8) := if packE l = 0 then blocksL l else []
theorem posL_length : ∀ l : List PageR, (posL l).length = 4 * l.length
  | [] => rfl
  | p :: l => by
    show (leB 4 p.pos.toNat ++ posL l).length = _
    rw [List.length_append, leB_length, posL_length l, List.length_cons]; omega
theorem posL_take (l : List PageR) (k : Nat) (h : k < l.length) : posL (l.take (k + 1)) = posL (l.take k) ++ leB 4 l[k].pos.toNat := by
  unfold posL
  rw [List.take_succ_eq_append_getElem h, List.flatMap_append]
  simp only [List.flatMap_cons, List.flatMap_nil, List.append_nil]
theorem tabL_length (l : List PageR) : (tabL l).length = 4 * l.length + 4 := by unfold tabL; rw [List.length_append, leB_length, posL_length]; omega
theorem firstBad_take : ∀ (l : List PageR) (k : Nat) (h : k < l.length), (∀ j (hj : j < l.length), j < k → badP l[j] = 0) → badP l[k] ≠ 0 → firstBad l = badP l[k]
  | [], k, h, _, _ => by simp at h
  | p :: l, 0, h, _, hb => by
    have hb' : ¬ badP p = 0 := hb
    unfold firstBad
    rw [if_neg hb']
    rfl
  | p :: l, k + 1, h, hg, hb => by
    have h0 : badP p = 0 := hg 0 (by simp) (by omega)
    unfold firstBad
    rw [if_pos h0]
    exact firstBad_take l k (by simpa using h) (fun j hj hjk => hg (j + 1) (by simpa using hj) (by omega)) hb
theorem firstBad_none : ∀ (l : List PageR), (∀ j (hj : j < l.length), badP l[j] = 0) → firstBad l = 0
  | [], _ => rfl
  | p :: l, h => by
    unfold firstBad
    have h0 : badP p = 0 := h 0 (by simp)
    rw [if_pos h0]
    exact firstBad_none l fun j hj => h (j + 1) (by simpa using hj)
theorem fillL_length (L : List UInt8) (h : L.length ≤ 256) : (fillL L).length = 256 := by simp [fillL]; omega
theorem fillL_full {L : List UInt8} (h : L.length = 256) : fillL L = L := by simp [fillL, h]
theorem blocksL_length (l : List PageR) : (blocksL l).length = headsN l.length + l.length := by simp [blocksL]
theorem drop_chunk (L : List UInt8) (j : Nat) : (L.drop (256 * j)).drop (min (L.drop (256 * j)).length 256) = L.drop (256 * (j + 1)) := by
  rw [List.drop_drop]
  by_cases h : (L.drop (256 * j)).length ≤ 256
  · rw [Nat.min_eq_left h, List.length_drop]
    rw [List.length_drop] at h
    rw [List.drop_eq_nil_of_le (by omega), List.drop_eq_nil_of_le (by omega)]
  · rw [Nat.min_eq_right (by omega)]
    congr 1
theorem take_chunk (L : List UInt8) (j : Nat) : fillL ((L.drop (256 * j)).take (min (L.drop (256 * j)).length 256)) = chunk L j := by
  unfold chunk
  congr 1
  by_cases h : (L.drop (256 * j)).length ≤ 256
  · rw [Nat.min_eq_left h, List.take_length, List.take_of_length_le h]
  · rw [Nat.min_eq_right (by omega)]
theorem range_snoc (f : Nat → List UInt8) (k : Nat) : (List.range (k + 1)).map f = (List.range k).map f ++ [f k] := by rw [List.range_succ, List.map_append]; rfl
theorem map_take_snoc (l : List PageR) (f : PageR → List UInt8) (k : Nat) (h : k < l.length) : (l.take (k + 1)).map f = (l.take k).map f ++ [f l[k]] := by
  rw [List.take_succ_eq_append_getElem h, List.map_append]; rfl
end Go.Proofs.Ytcfkcdfjianeiaa
