/- What every call answers, and what is kept behind each: one call of both, and the comparing. -/
import Derived.Test.YtjccfodadiaokaaCPlays
import Derived.Test.YtjccfodadiaokaaCSame
import Derived.Test.YtjccfodadiaokaaCActLift
namespace Go.Proofs.Ytjccfodadiaokaa
open Go.RowKit
set_option linter.unusedVariables false
set_option linter.unusedSimpArgs false
/-- What is kept behind a call. -/
def doesP (most : Int) (l : List CItem) (x : ActR) : List CItem :=
  if x.kind = 0 then (getP l x.key).1 else if x.kind = 1 then (putP most l x.key x.val).1 else if x.kind = 2 then (pinP l x.key).1 else if x.kind = 3 then (unpinP l x.key).1 else (dropP l x.key).1
theorem Keeps.does {j : Nat} {most : Int} {l : List CItem} (h : Keeps j most l) (x : ActR) : Keeps (j + 1) most (doesP most l x) := by
  unfold doesP
  split
  · exact (h.get x.key).more (by omega)
  · split
    · exact (h.put x.key x.val).more (by omega)
    · split
      · exact h.pin x.key
      · split
        · exact h.unpin x.key
        · exact (h.drop x.key).more (by omega)
theorem does_c (w wr : World) (p rb : Nat) (most : Int) (l : List CItem) (j : Nat) (x : ActR) (hB : Both w wr p rb most l) (hk : Keeps j most l) (hm : most ≤ 1024) (hm1 : 1 ≤ most) (hj : j ≤ 1000) :
    Calls Try.prog 22 #[.pointer (some ⟨p, 0, none⟩), .pointer (some ⟨rb, 0, none⟩), .agg #[.int .i64 x.kind, .int .i64 x.key, .string x.val]] wr fun e w' => e = .returned (.bool true) ∧ Both w w' p rb most (doesP most l x) := by
  obtain ⟨kind, k, s⟩ := x
  unfold doesP
  dsimp only
  by_cases h0 : kind = 0
  · rw [if_pos h0]; subst h0; exact does0_c w wr p rb most l j k s hB hk hm hm1
  · rw [if_neg h0]
    by_cases h1 : kind = 1
    · rw [if_pos h1]; subst h1; exact does1_c w wr p rb most l j k s hB hk hm hm1
    · rw [if_neg h1]
      by_cases h2 : kind = 2
      · rw [if_pos h2]; subst h2; exact does2_c w wr p rb most l j k s hB hk hm hm1 hj
      · rw [if_neg h2]
        by_cases h3 : kind = 3
        · rw [if_pos h3]; subst h3; exact does3_c w wr p rb most l j k s hB hk hm hm1 hj
        · rw [if_neg h3]; exact does4_c w wr p rb most l j kind k s hB hk hm hm1 h0 h1 h2 h3
theorem Both.grow {w wr w' : World} {p rb : Nat} {most : Int} {l : List CItem} (h : Both w wr p rb most l) (g : Grow wr w') : Both w w' p rb most l := by
  obtain ⟨v, v', h1, h2, h3, h4, h5, h6, h7⟩ := h
  exact ⟨v, v', h1.grow g, h2, Below.trans h3 (Below.mono g h3.size), h4, g.heap h5, h6.grow g, h7⟩
theorem Both.below {w wr : World} {p rb : Nat} {most : Int} {l : List CItem} (h : Both w wr p rb most l) : Below w.heap.size w wr := by
  obtain ⟨v, v', h1, h2, h3, h4, h5, h6, h7⟩ := h
  exact h3
theorem Both.len {w wr : World} {p rb : Nat} {most : Int} {l : List CItem} (h : Both w wr p rb most l) : Calls Try.prog 14 #[.pointer (some ⟨p, 0, none⟩)] wr fun e w' => e = .returned (.int .i64 (l.length : Int)) ∧ wr = w' := by
  obtain ⟨v, v', h1, -⟩ := h
  exact Len_c p most v l wr h1
theorem Both.kept {w wr : World} {p rb : Nat} {most : Int} {l : List CItem} (h : Both w wr p rb most l) (hl : l.length ≤ 2000) :
    Calls Try.prog 19 #[.pointer (some ⟨p, 0, none⟩), .int .i64 2000] wr fun e w' => (∃ lv, e = .returned lv ∧ RItems w' lv (l.map CItem.bare)) ∧ Grow wr w' := by
  obtain ⟨v, v', h1, -⟩ := h
  refine (kept_c p most v l 2000 wr h1 (by omega) (by omega)).mono ?_
  rintro e w' ⟨lv, rfl, ho, g⟩
  have e : ((l.map CItem.bare).take (2000 : Int).toNat) = l.map CItem.bare := List.take_of_length_le (by rw [List.length_map]; exact hl)
  rw [e] at ho
  exact ⟨⟨lv, rfl, RItems.of_own ho (by rw [List.length_map]; omega)⟩, g⟩
set_option maxRecDepth 100000 in
set_option maxHeartbeats 4000000 in
/-- What is kept is the same, whatever its pins. -/
theorem sameBare_c (L : List CItem) (va vb : Value) (w : World) (ha : RItems w va (L.map CItem.bare)) (hb : RItems w vb L) : Calls Try.prog 20 #[va, vb] w fun e w' => e = .returned (.bool true) ∧ Grow w w' := by
  obtain ⟨pa, ca, rfl, hl, -, hca⟩ := ha
  obtain ⟨pb, cb, rfl, -, -, hcb⟩ := hb
  rw [List.length_map] at hl ⊢
  have HX := hid (show ∀ k, k < L.length → ∃ (ga gb : Nat) (key : Int) (val : ByteArray), pa = some ⟨ga, 0, none⟩ ∧ pb = some ⟨gb, 0, none⟩ ∧ w.cell? ⟨ga, k * 3, none⟩ = some (.int .i64 key) ∧ w.cell? ⟨ga, k * 3 + 1, none⟩ = some (.string val) ∧ w.cell? ⟨gb, k * 3, none⟩ = some (.int .i64 key) ∧ w.cell? ⟨gb, k * 3 + 1, none⟩ = some (.string val) from by
    intro k hk
    obtain ⟨ga, e1, A⟩ := hca (by rw [List.length_map]; omega)
    obtain ⟨gb, e2, B⟩ := hcb (by omega)
    have A' := A k (by rw [List.length_map]; exact hk)
    rw [List.getElem_map] at A'
    exact ⟨ga, gb, _, _, e1, e2, A'.1, A'.2.1, (B k hk).1, (B k hk).2.1⟩)
  clear hca hcb
  generalize L.length = n at *
  go_enter Try.func20, Try.ntmps20
  go_wp2_with fail
  go_loopw [5] (fun i wr => ∃ k : Nat, k ≤ n ∧ i = .int .i64 (k : Int) ∧ Grow w wr) (fun i _ => n - (intOf i).toNat)
  case atStart => exact ⟨0, by omega, rfl, Grow.refl _⟩
  case round =>
    obtain ⟨k, hk, rfl, hg⟩ := hrel
    by_cases hlt : k < n
    · obtain ⟨ga, gb, key, val, rfl, rfl, a0, a1, b0, b1⟩ := HX.out k hlt
      replace a0 := hg.cell a0
      replace a1 := hg.cell a1
      replace b0 := hg.cell b0
      replace b1 := hg.cell b1
      have hk0 : (0 : Int) ≤ (k : Int) := by omega
      have hk1 : (k : Int) < (n : Int) := by omega
      have e1 : (key != key) = false := by simp
      go_wp2_with fail
      go_quiet (fail)
      go_wp2_with fail
      go_roundw
      case rel => exact ⟨k + 1, by omega, by go_num, Grow.drewNM hg _⟩
      case measure => (simp [intOf]; try omega)
    · go_wp2_with fail
      go_ret
      exact ⟨rfl, hg⟩
end Go.Proofs.Ytjccfodadiaokaa
