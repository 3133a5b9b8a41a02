/- The whole Scan and its reference, the laws' comparing of signs, and the examples of the layer 'lex'. -/
import Derived.Test.YthijancigoedgaaLexScan
import Derived.Test.YthijancigoedgaaLexRScan
import Derived.Deep.QuietTactic
import Derived.BigQuiet
namespace Go.Proofs.Ythijancigoedgaa
open Go.RowKit
set_option linter.unusedVariables false
set_option linter.unusedSimpArgs false
theorem Scan_any (s : ByteArray) (w : World) (hs : s.size ≤ 140737488351232) : Calls Try.prog 8 #[.string s] w (ScanPost (scan s.data.toList) w) := by
  unfold scan
  by_cases h : 4096 < s.data.toList.length
  · rw [if_pos h]
    have h' : 4096 < s.size := by simpa using h
    clear h
    go_enter Try.func8, Try.ntmps8
    go_wp2_with fail
    go_ret3
    exact ⟨.slice none 0 0, rfl, Toks.nil _, Grow.refl _⟩
  · rw [if_neg h]
    exact Scan_c s w (by simpa using h)
theorem RScan_any (s : ByteArray) (w : World) (hs : s.size ≤ 140737488351232) : Calls Try.prog 9 #[.string s] w (ScanPost (scan s.data.toList) w) := by
  unfold scan
  by_cases h : 4096 < s.data.toList.length
  · rw [if_pos h]
    have h' : 4096 < s.size := by simpa using h
    clear h
    go_enter Try.func9, Try.ntmps9
    go_wp2_with fail
    go_ret3
    exact ⟨.slice none 0 0, rfl, Toks.nil _, Grow.refl _⟩
  · rw [if_neg h]
    exact RScan_c s w (by simpa using h)
theorem Grow.drewNR {a b : World} (h : Grow a b) (n : Nat) : Grow a (b.drewN n) := ⟨h.os, h.tape, h.output, h.size, h.block⟩
set_option maxRecDepth 100000 in
set_option maxHeartbeats 4000000 in
theorem same_c (l m : List Tok) (va vb : Value) (p : Bool) (w : World) (ha : Toks w va l) (hb : Toks w vb m) (hl : l.length = m.length)
    (he : ∀ i (h : i < l.length) (h' : i < m.length), l[i].kind = m[i].kind ∧ l[i].text = m[i].text ∧ l[i].num = m[i].num ∧ (p = true → l[i].pos = m[i].pos)) :
    Calls Try.prog 10 #[va, vb, .bool p] w fun e w' => e = .returned (.bool true) ∧ Grow w w' := by
  obtain ⟨pa, ca, rfl, hna, hca⟩ := ha
  obtain ⟨pb, cb, rfl, hnb, hcb⟩ := hb
  have HX : ∀ k, k < l.length → ∃ (ba bb : Nat) (kd nu : Int) (tx : ByteArray) (x y : Nat), pa = some ⟨ba, 0, none⟩ ∧ pb = some ⟨bb, 0, none⟩ ∧
      w.cell? ⟨ba, k * 4, none⟩ = some (.int .i64 kd) ∧ w.cell? ⟨ba, k * 4 + 1, none⟩ = some (.string tx) ∧ w.cell? ⟨ba, k * 4 + 2, none⟩ = some (.int .i64 nu) ∧ w.cell? ⟨ba, k * 4 + 3, none⟩ = some (.int .i64 (x : Int)) ∧
      w.cell? ⟨bb, k * 4, none⟩ = some (.int .i64 kd) ∧ w.cell? ⟨bb, k * 4 + 1, none⟩ = some (.string tx) ∧ w.cell? ⟨bb, k * 4 + 2, none⟩ = some (.int .i64 nu) ∧ w.cell? ⟨bb, k * 4 + 3, none⟩ = some (.int .i64 (y : Int)) ∧ (p = true → x = y) := by
    intro k hk
    obtain ⟨ba, e1, A⟩ := hca (by omega)
    obtain ⟨bb, e2, B⟩ := hcb (by omega)
    obtain ⟨e3, e4, e5, e6⟩ := he k hk (by omega)
    obtain ⟨a0, a1, a2, a3⟩ := A k hk
    obtain ⟨b0, b1, b2, b3⟩ := B k (by omega)
    rw [← e3] at b0
    rw [← e4] at b1
    rw [← e5] at b2
    exact ⟨ba, bb, _, _, _, _, _, e1, e2, a0, a1, a2, a3, b0, b1, b2, b3, e6⟩
  rw [← hl]
  have HX := hid HX
  clear hl he hca hcb hnb
  generalize l.length = n at *
  go_enter Try.func10, Try.ntmps10
  go_wp2_with fail
  go_loopw [7] (fun i wr => ∃ k : Nat, k ≤ n ∧ i = .int .i64 k ∧ Grow w wr) (fun i _ => n - (intOf i).toNat)
  case atStart => exact ⟨0, by omega, rfl, Grow.refl _⟩
  case round =>
    obtain ⟨k, hk, rfl, hg⟩ := hrel
    by_cases hlt : k < n
    · obtain ⟨ba, bb, kd, nu, tx, x, y, rfl, rfl, a0, a1, a2, a3, b0, b1, b2, b3, e3⟩ := HX.out k hlt
      replace a0 := hg.cell a0
      replace a1 := hg.cell a1
      replace a2 := hg.cell a2
      replace a3 := hg.cell a3
      replace b0 := hg.cell b0
      replace b1 := hg.cell b1
      replace b2 := hg.cell b2
      replace b3 := hg.cell b3
      have hk0 : (0 : Int) ≤ (k : Int) := by omega
      have hk1 : (k : Int) < (n : Int) := by omega
      cases p
      · clear e3 a3 b3
        go_wp2_with fail
        go_quiet (fail)
        go_wp2_with fail
        go_roundw
        case rel => exact ⟨k + 1, by omega, by go_num, Grow.drewNR hg _⟩
        case measure => simp [intOf]; omega
      · obtain rfl : x = y := e3 rfl
        clear e3
        go_wp2_with fail
        go_quiet (fail)
        go_wp2_with fail
        go_roundw
        case rel => exact ⟨k + 1, by omega, by go_num, Grow.drewNR hg _⟩
        case measure => simp [intOf]; omega
    · obtain rfl : k = n := by omega
      go_wp2_with fail
      go_ret
      exact ⟨rfl, hg⟩
theorem awake_1 : scan [105, 100, 62, 61, 45, 53] = ⟨[⟨1, [105, 100], 0, 0⟩, ⟨3, [62, 61], 0, 2⟩, ⟨2, [45, 53], -5, 4⟩], 6, 0⟩ := by kernel_rfl
theorem awake_2 : scan [97, 49] = ⟨[⟨1, [97], 0, 0⟩, ⟨2, [49], 1, 1⟩], 2, 0⟩ := by kernel_rfl
set_option maxRecDepth 100000 in
set_option maxHeartbeats 1000000 in
theorem awake_c (w : World) : Calls Try.prog 11 #[] w fun e w' => e = .returned (.bool true) ∧ Grow w w' := by
  have c1 := fun w => Scan_any ⟨#[105, 100, 62, 61, 45, 53]⟩ w (by show 6 ≤ _; omega)
  have c2 := fun w => Scan_any ⟨#[97, 49]⟩ w (by show 2 ≤ _; omega)
  simp only at c1 c2
  rw [awake_1] at c1
  rw [awake_2] at c2
  have c1 := hid c1
  have c2 := hid c2
  go_enter Try.func11, Try.ntmps11
  go_wp2_with fail
  refine (c1.out _).mono ?_
  rintro e w1 ⟨v1, rfl, ⟨p1, k1, rfl, hn1, ht1⟩, g1⟩
  go_wp2_with fail
  refine (c2.out _).mono ?_
  rintro e w2 ⟨v2, rfl, ⟨p2, k2, rfl, hn2, ht2⟩, g2⟩
  obtain ⟨b, rfl, HB⟩ := ht1 (by simp)
  have a1 := g2.cell (HB 1 (by simp)).2.1
  have a2 := g2.cell (HB 2 (by simp)).2.2.1
  simp only [List.getElem_cons_succ, List.getElem_cons_zero, Nat.reduceMul, Nat.reduceAdd] at a1 a2
  clear ht2 HB ht1 hn1 hn2
  go_wp2_with fail
  go_ret
  exact ⟨rfl, Grow.trans g1 g2⟩
end Go.Proofs.Ythijancigoedgaa
