/- What slices.BinarySearch computes on numbers that rise. -/
import Derived.Test.YtlhgdbangnohjaaMListDo
namespace Go.Proofs.Ytlhgdbangnohjaa
open Go.RowKit
set_option linter.unusedVariables false
set_option linter.unusedSimpArgs false
theorem sNaN_c (x : Int) (w : World) : Calls Try.prog 66 #[.int .i64 x] w fun e w' => e = .returned (.bool false) ∧ w = w' := by
  have h : (x != x) = false := by simp
  go_enter Try.func66, Try.ntmps66
  go_wp2_with fail
  go_ret
  exact ⟨by simp, rfl⟩
theorem cNaN_c (x : Int) (w : World) : Calls Try.prog 69 #[.int .i64 x] w fun e w' => e = .returned (.bool false) ∧ w = w' := by
  have h : (x != x) = false := by simp
  go_enter Try.func69, Try.ntmps69
  go_wp2_with fail
  go_ret
  exact ⟨by simp, rfl⟩
set_option maxHeartbeats 1000000 in
theorem Less_c (x y : Int) (w : World) : Calls Try.prog 65 #[.int .i64 x, .int .i64 y] w fun e w' => e = .returned (.bool (decide (x < y))) ∧ w = w' := by
  have h1 := hid (fun (w : World) => cNaN_c x w)
  have h2 := hid (fun (w : World) => cNaN_c y w)
  go_enter Try.func65, Try.ntmps65
  go_wp2_with (go_at_call 69; first | (refine (h1.out _).mono ?_; rintro e w1 ⟨rfl, rfl⟩) | (refine (h2.out _).mono ?_; rintro e w1 ⟨rfl, rfl⟩))
  all_goals go_ret
  all_goals exact ⟨by simp [*], rfl⟩
set_option maxRecDepth 100000 in
set_option maxHeartbeats 4000000 in
theorem Search_c (xs : List Int) (x : Int) (v : Value) (w : World) (hv : Ints w v xs) (hs : xs.Pairwise (· < ·)) :
    Calls Try.prog 58 #[v, .int .i64 x] w fun e w' => ∃ i : Nat, i ≤ xs.length ∧ (∀ k, k < i → xs.getD k 0 < x) ∧ (∀ k, i ≤ k → k < xs.length → x ≤ xs.getD k 0) ∧ e = .returned (.tuple #[.int .i64 (i : Int), .bool (decide (i < xs.length ∧ xs.getD i 0 = x))]) ∧ w = w' := by
  have hl := hv.length
  obtain ⟨p, cap, rfl, hc⟩ := hv.at
  have HC := hid hc
  have HS := hid (show ∀ i j, i ≤ j → j < xs.length → xs.getD i 0 ≤ xs.getD j 0 from by
    intro i j hij hj
    by_cases e : i = j
    · subst e; omega
    · have := List.pairwise_iff_getElem.1 hs i j (by omega) hj (by omega)
      simp only [List.getD, List.getElem?_eq_getElem hj, List.getElem?_eq_getElem (show i < xs.length by omega), Option.getD_some]
      omega)
  have HL := hid (fun (a b : Int) (w : World) => Less_c a b w)
  have HN := hid (fun (a : Int) (w : World) => sNaN_c a w)
  clear hc hs
  generalize hN : xs.length = n at *
  generalize hX : (fun k => xs.getD k 0) = X at *
  go_enter Try.func58, Try.ntmps58
  go_wp2_with fail
  go_loopw [7, 8] (fun a b wr => ∃ i j : Nat, i ≤ j ∧ j ≤ n ∧ a = .int .i64 (i : Int) ∧ b = .int .i64 (j : Int) ∧ Hid (∀ k, k < i → xs.getD k 0 < x) ∧ Hid (∀ k, j ≤ k → k < n → x ≤ xs.getD k 0) ∧ wr = w) (fun a b _ => (intOf b).toNat - (intOf a).toNat)
  case atStart => exact ⟨0, n, by omega, by omega, rfl, rfl, hid (fun k hk => by omega), hid (fun k h1 h2 => by omega), rfl⟩
  case round =>
    obtain ⟨i, j, hij, hj, rfl, rfl, H1, H2, rfl⟩ := hrel
    by_cases hlt : i < j
    · have hlt1 : (i : Int) < (j : Int) := by omega
      have hq3 : ((i : Int) + (j : Int)) / 2 < (n : Int) := by omega
      have hq4 : (0 : Int) ≤ ((i : Int) + (j : Int)) / 2 := by omega
      obtain ⟨b, off, rfl, hc0⟩ := HC.out ((i + j) / 2) (by omega)
      have hm1 := fun k (h : k ≤ (i + j) / 2) => HS.out k ((i + j) / 2) h (by omega)
      have hm2 := fun k (h : (i + j) / 2 ≤ k) (h' : k < n) => HS.out ((i + j) / 2) k h h'
      have hl1 := fun w => HL.out (xs.getD ((i + j) / 2) 0) x w
      by_cases hlx : xs.getD ((i + j) / 2) 0 < x
      · have H3 := hid (show ∀ k, k < (i + j) / 2 + 1 → xs.getD k 0 < x from fun k hk => by have := hm1 k (by omega); omega)
        rw [decide_eq_true hlx] at hl1
        have HL1 := hid hl1
        clear hl1 hm1 hm2 hlx
        generalize xs.getD ((i + j) / 2) 0 = y at *
        go_wp2_with fail
        refine (HL1.out _).mono ?_
        rintro e w1 ⟨rfl, rfl⟩
        go_wp2_with fail
        go_roundw
        case rel => exact ⟨(i + j) / 2 + 1, j, by omega, hj, by (first | go_num | (congr 1; omega)), rfl, H3, H2, by first | rfl | trivial⟩
        case measure => simp [intOf]; omega
      · have H3 := hid (show ∀ k, (i + j) / 2 ≤ k → k < n → x ≤ xs.getD k 0 from fun k hk hk2 => by have := hm2 k hk hk2; omega)
        rw [decide_eq_false hlx] at hl1
        have HL1 := hid hl1
        clear hl1 hm1 hm2 hlx
        generalize xs.getD ((i + j) / 2) 0 = y at *
        go_wp2_with fail
        refine (HL1.out _).mono ?_
        rintro e w1 ⟨rfl, rfl⟩
        go_wp2_with fail
        go_roundw
        case rel => exact ⟨i, (i + j) / 2, by omega, by omega, rfl, by (first | go_num | (congr 1; omega)), H1, H3, by first | rfl | trivial⟩
        case measure => simp [intOf]; omega
    · obtain rfl : i = j := by omega
      clear hlt
      by_cases hin : i < n
      · obtain ⟨b, off, rfl, hc0⟩ := HC.out i hin
        have hi1 : (i : Int) < (n : Int) := by omega
        have hi0 : (0 : Int) ≤ (i : Int) := by omega
        by_cases he : xs.getD i 0 = x
        · have hd : decide (i < n ∧ xs.getD i 0 = x) = true := decide_eq_true ⟨hin, he⟩
          rw [he] at hc0
          have HD := hid hd
          clear hd he
          go_wp2_with fail
          go_ret2
          exact ⟨i, hj, H1.out, H2.out, by first | rfl | (rw [HD.out]; rfl) | simp, rfl⟩
        · have hd : decide (i < n ∧ xs.getD i 0 = x) = false := decide_eq_false (fun h => he h.2)
          have hne : (xs.getD i 0 == x) = false := by simpa using he
          have HD := hid hd
          have HN1 := hid (fun w => HN.out (xs.getD i 0) w)
          clear hd he
          generalize xs.getD i 0 = y at hne hc0 HN1
          go_wp2_with fail
          refine (HN1.out _).mono ?_
          rintro e w1 ⟨rfl, rfl⟩
          go_wp2_with fail
          go_ret2
          exact ⟨i, hj, H1.out, H2.out, by first | rfl | (rw [HD.out]; rfl) | simp, rfl⟩
      · have hd : decide (i < n ∧ xs.getD i 0 = x) = false := decide_eq_false (fun h => hin h.1)
        have hi1 : ¬ (i : Int) < (n : Int) := by omega
        have HD := hid hd
        clear hd
        go_wp2_with fail
        go_ret2
        exact ⟨i, hj, H1.out, H2.out, by first | rfl | (rw [HD.out]; rfl) | simp [hin] | (simp; intro h; exact absurd h hin), rfl⟩
end Go.Proofs.Ytlhgdbangnohjaa
