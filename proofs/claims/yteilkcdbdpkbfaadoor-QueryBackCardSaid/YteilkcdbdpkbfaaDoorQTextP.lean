/- How a node is written. No Go text is spoken of. -/
import Derived.Test.YteilkcdbdpkbfaaDoorQSameP
import Derived.Test.YteilkcdbdpkbfaaDoorQWord
import Derived.Lib.ItoaLen
namespace Go.Proofs.YteilkcdbdpkbfaaDoor
open Go.RowKit
set_option linter.unusedVariables false
set_option linter.unusedSimpArgs false
def tightI (k : Int) : Int := if k = 1 then 1 else if k = 2 then 2 else 3
def wrapT (b : Bool) (t : List UInt8) : List UInt8 := if b = true then [40, 32] ++ t ++ [32, 41] else t
def valueT (f : ByteArray) (x : Int) : List UInt8 := if namesB f = true then (wordP f x).1.data.toList else Lib.itoa x
def sepT (k : Int) : List UInt8 := if k = 1 then [32, 111, 114, 32] else [32, 97, 110, 100, 32]
mutual
/-- A node, without parentheses about it. -/
def bodyT : NodeR → List UInt8
  | .mk k ks f s x =>
    if k = 1 ∨ k = 2 then Lib.join (kidsT (k + 1) ks) (sepT k)
    else if k = 3 then (if ks.length = 1 then [110, 111, 116, 32] ++ (kidsT 3 ks).headD [] else [])
    else if k = 5 then f.data.toList ++ [32] ++ Lib.itoa x
    else if k = 6 then [97, 108, 108]
    else if k = 4 then f.data.toList ++ [32] ++ s.data.toList ++ [32] ++ valueT f x
    else []
def kidsT (m : Int) : List NodeR → List (List UInt8)
  | [] => []
  | n :: l => wrapT (decide (tightI n.kind < m)) (bodyT n) :: kidsT m l
end
def nodeT (m : Int) (n : NodeR) : List UInt8 := wrapT (decide (tightI n.kind < m)) (bodyT n)
theorem kidsT_map (m : Int) : ∀ l : List NodeR, kidsT m l = l.map (nodeT m)
  | [] => by simp [kidsT]
  | n :: l => by
    unfold kidsT
    rw [kidsT_map m l]
    rfl
mutual
def NodeR.wgt : NodeR → Nat
  | .mk _ ks f s _ => 1 + ks.length + f.size + s.size + wgtL ks
def wgtL : List NodeR → Nat
  | [] => 0
  | n :: l => n.wgt + wgtL l
end
theorem wgtL_at : ∀ (l : List NodeR) (i : Nat) (h : i < l.length), l[i].wgt ≤ wgtL l
  | [], i, h => by simp at h
  | a :: l, 0, _ => by simp [wgtL]
  | a :: l, i + 1, h => by
    have := wgtL_at l i (by simpa using h)
    simp only [List.getElem_cons_succ, wgtL]
    omega
theorem wordF_len (f : ByteArray) (n : Int) : ∀ l : List ByteArray, (∀ s ∈ l, s.data.toList.length ≤ 8) → (wordF f n l).1.data.toList.length ≤ 8
  | [], _ => by simp [wordF]
  | s :: l, h => by
    unfold wordF
    split
    · exact h s (by simp)
    · exact wordF_len f n l (fun s hs => h s (by simp [hs]))
theorem wordP_len (f : ByteArray) (n : Int) : (wordP f n).1.data.toList.length ≤ 8 := wordF_len f n allWords (by decide +kernel)
theorem valueT_len (f : ByteArray) (x : Int) (h : I64 x) : (valueT f x).length ≤ 21 := by
  unfold valueT
  split
  · have := wordP_len f x
    omega
  · exact Lib.itoa_length_le x h.1 h.2
theorem wrapT_len (b : Bool) (t : List UInt8) : (wrapT b t).length ≤ t.length + 4 := by
  unfold wrapT
  split <;> simp <;> omega
theorem lensC (a : List UInt8) (l : List (List UInt8)) : Lib.lens (a :: l) = a.length + Lib.lens l := by simp [Lib.lens]
mutual
theorem bodyT_len : ∀ n : NodeR, n.Fit → (bodyT n).length ≤ 32 * n.wgt
  | .mk k ks f s x, h => by
    unfold NodeR.Fit at h
    obtain ⟨-, hx, hf, hs, hl, hk⟩ := h
    have hv := valueT_len f x hx
    have hi := Lib.itoa_length_le x hx.1 hx.2
    have hfl : f.data.toList.length = f.size := by simp
    have hsl : s.data.toList.length = s.size := by simp
    unfold bodyT NodeR.wgt
    split
    · have hj := kidsT_len (k + 1) ks hk
      cases hc : kidsT (k + 1) ks with
      | nil => simp [Lib.join_nil]
      | cons a r =>
        rw [hc] at hj
        rw [Lib.join_length]
        have hr : r.length + 1 = ks.length := by
          have := congrArg List.length hc
          rw [kidsT_map] at this
          simpa using this.symm
        have hsp : (sepT k).length ≤ 5 := by unfold sepT; split <;> simp
        have hm : (sepT k).length * r.length ≤ 5 * r.length := Nat.mul_le_mul_right _ hsp
        omega
    · split
      · split
        · have hj := kidsT_len 3 ks hk
          cases hc : kidsT 3 ks with
          | nil => simp; omega
          | cons a r =>
            rw [hc] at hj
            rw [lensC] at hj
            simp
            omega
        · simp
      · split
        · simp only [List.length_append, List.length_cons, List.length_nil, hfl]
          omega
        · split
          · simp; omega
          · split
            · simp only [List.length_append, List.length_cons, List.length_nil, hfl, hsl]
              omega
            · simp
theorem kidsT_len (m : Int) : ∀ l : List NodeR, kidsFit l → Lib.lens (kidsT m l) ≤ 32 * wgtL l + 4 * l.length
  | [], _ => by simp [kidsT, Lib.lens]
  | n :: l, h => by
    unfold kidsFit at h
    have h1 := bodyT_len n h.1
    have h2 := kidsT_len m l h.2
    have h3 := wrapT_len (decide (tightI n.kind < m)) (bodyT n)
    unfold kidsT wgtL
    rw [lensC, List.length_cons]
    omega
end
theorem nodeT_len (m : Int) (n : NodeR) (h : n.Fit) : (nodeT m n).length ≤ 32 * n.wgt + 4 := by
  have h1 := bodyT_len n h
  have h3 := wrapT_len (decide (tightI n.kind < m)) (bodyT n)
  unfold nodeT
  omega
end Go.Proofs.YteilkcdbdpkbfaaDoor
