/- What the scanner's signs are like. No Go text is spoken of. -/
import Derived.Test.YteilkcdbdpkbfaaDoorQMem
namespace Go.Proofs.YteilkcdbdpkbfaaDoor
open Go.RowKit
set_option linter.unusedVariables false
set_option linter.unusedSimpArgs false
theorem head_take {L : List UInt8} {n : Nat} (hn : 0 < n) : (L.take n).headD 0 = L.headD 0 := by
  cases L with
  | nil => simp
  | cons a l => cases n with
    | zero => omega
    | succ n => rfl
theorem stepT_ok {L : List UInt8} {k n : Nat} {v : Int} (hL : L ≠ []) (h : stepT L = .tok k n v) (i : Nat) (hi : i + L.length ≤ 4096) : Tok.Ok ⟨k, L.take n, v, i⟩ := by
  have hlen := stepT_len hL h
  have hne : L.take n ≠ [] := by
    intro e
    have := congrArg List.length e
    simp at this
    rcases this with h | h
    · omega
    · exact hL h
  have hl2 : (L.take n).length ≤ 4096 := by simp; omega
  have hlet : (0 < lets L) ↔ isLet ((L.take n).headD 0) = true := by rw [head_take hlen.1]; exact lets_pos
  unfold stepT at h
  split at h
  · simp only [St.tok.injEq] at h
    obtain ⟨rfl, rfl, rfl⟩ := h
    exact ⟨.inl rfl, hne, fun _ => rfl, hl2, by simp, by simp, by show i ≤ 4096; omega⟩
  · rename_i hnl
    have hno : isLet ((L.take n).headD 0) = true → k = 1 := fun e => absurd (hlet.2 e) hnl
    split at h
    · split at h
      · cases h
      · rename_i x hx
        have hx2 := valF_le _ _ _ (by omega) hx
        simp only [St.tok.injEq] at h
        obtain ⟨rfl, rfl, rfl⟩ := h
        refine ⟨.inr (.inl rfl), hne, hno, hl2, ?_, ?_, by show i ≤ 4096; omega⟩
        · show -1099511627776 ≤ (if minusN L = 1 then -(x : Int) else (x : Int))
          split <;> omega
        · show (if minusN L = 1 then -(x : Int) else (x : Int)) ≤ 1099511627776
          split <;> omega
    · split at h
      · simp only [St.tok.injEq] at h
        obtain ⟨rfl, rfl, rfl⟩ := h
        exact ⟨.inr (.inr rfl), hne, hno, hl2, by simp, by simp, by show i ≤ 4096; omega⟩
      · cases h
theorem scanF_ok : ∀ (f : Nat) (L : List UInt8) (i : Nat), i + L.length ≤ 4096 → ∀ t ∈ (scanF f L i).toks, Tok.Ok t
  | 0, L, i, hi, t, ht => by simp [scanF] at ht
  | f + 1, [], i, hi, t, ht => by simp [scanF] at ht
  | f + 1, b :: l, i, hi, t, ht => by
    simp only [List.length_cons] at hi
    unfold scanF at ht
    split at ht
    · exact scanF_ok f l (i + 1) (by omega) t ht
    · split at ht
      · simp at ht
      · rename_i k n v hst
        have hlen := stepT_len (by simp) hst
        have hd : ((b :: l).drop n).length = l.length + 1 - n := by simp
        have hl : n ≤ l.length + 1 := by simpa using hlen.2
        unfold Sc.cons at ht
        split at ht
        · simp only [List.cons_append, List.nil_append, List.mem_cons] at ht
          rcases ht with rfl | ht
          · exact stepT_ok (by simp) hst i (by simp only [List.length_cons]; omega)
          · exact scanF_ok f _ (i + n) (by rw [hd]; omega) t ht
        · simp at ht
theorem scanF_count : ∀ (f : Nat) (L : List UInt8) (i : Nat), (scanF f L i).toks.length ≤ L.length
  | 0, L, i => by simp [scanF]
  | f + 1, [], i => by simp [scanF]
  | f + 1, b :: l, i => by
    unfold scanF
    split
    · have := scanF_count f l (i + 1)
      simp only [List.length_cons]
      omega
    · split
      · simp
      · rename_i k n v hst
        have hlen := stepT_len (by simp) hst
        have := scanF_count f ((b :: l).drop n) (i + n)
        rw [List.length_drop] at this
        unfold Sc.cons
        split
        · simp only [List.cons_append, List.nil_append, List.length_cons] at this ⊢
          omega
        · simp
theorem scan_err_small (f : Nat) : ∀ (L : List UInt8) (i : Nat), (scanF f L i).err ≤ 40 ∧ (scanF f L i).stop ≤ i + L.length := by
  induction f with
  | zero => intro L i; simp [scanF]
  | succ f ih =>
    intro L i
    cases L with
    | nil => simp [scanF]
    | cons b l =>
      unfold scanF
      split
      · have := ih l (i + 1)
        simp only [List.length_cons]
        omega
      · split
        · rename_i e he
          have := stepT_err he
          simp only [List.length_cons]
          omega
        · rename_i k n v hst
          have hlen := stepT_len (by simp) hst
          have := ih ((b :: l).drop n) (i + n)
          rw [List.length_drop] at this
          simp only [List.length_cons] at this hlen ⊢
          unfold Sc.cons
          split
          · simp only
            omega
          · simp only
            omega
/-- Signs one behind the other, out of the slice's cells. -/
theorem TokRow.of_cells {w : World} {b : Nat} : ∀ (l : List Tok) (o : Nat), (∀ i (h : i < l.length), w.cell? ⟨b, o + i * 4, none⟩ = some (.int .i64 (l[i].kind : Int)) ∧ w.cell? ⟨b, o + i * 4 + 1, none⟩ = some (.string ⟨l[i].text.toArray⟩) ∧
    w.cell? ⟨b, o + i * 4 + 2, none⟩ = some (.int .i64 l[i].num) ∧ w.cell? ⟨b, o + i * 4 + 3, none⟩ = some (.int .i64 (l[i].pos : Int))) → TokRow w b o l
  | [], _, _ => trivial
  | t :: l, o, h => by
    refine ⟨?_, TokRow.of_cells l (o + 4) (fun i hi => ?_)⟩
    · have := h 0 (by simp)
      simpa [TokAt, Tok.str] using this
    · have := h (i + 1) (by simpa using hi)
      simpa [show o + (i + 1) * 4 = o + 4 + i * 4 from by omega] using this
end Go.Proofs.YteilkcdbdpkbfaaDoor
