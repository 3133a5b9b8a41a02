/- What key.Of and the reference's Of compute. -/
import Derived.Test.YtnohdicnofffdaaInts
import Derived.Test.YtnohdicnofffdaaOrdered
import Derived.Test.YtnohdicnofffdaaKeyPlain
namespace Go.Proofs.Ytnohdicnofffdaa
open Go.RowKit
set_option linter.unusedVariables false
set_option linter.unusedSimpArgs false

theorem ofL_join (xs : List Int) (j : Nat) (h : j < xs.length) : (ByteArray.mk (ofL (xs.take j)).toArray ++ ByteArray.mk (ordL (xs.getD j 0)).toArray) = ByteArray.mk (ofL (xs.take (j + 1))).toArray := by
  have e : xs.getD j 0 = xs[j] := by simp [List.getD, h]
  rw [ByteArray.mk_append_mk, List.take_succ_eq_append_getElem h, ofL_snoc, e]
theorem ofL_take_size (xs : List Int) (j : Nat) (h : xs.length ≤ 4) : (ofL (xs.take j)).length ≤ 32 := by
  rw [ofL_length, List.length_take]
  omega
theorem getD_inR {xs : List Int} (h : ∀ n ∈ xs, inR n) {j : Nat} (hj : j < xs.length) : inR (xs.getD j 0) := by
  have e : xs.getD j 0 = xs[j] := by simp [List.getD, hj]
  rw [e]
  exact h _ (List.getElem_mem hj)

theorem Of_big (xs : List Int) (v : Value) (w : World) (hv : Ints w v xs) (h : 4 < xs.length) : Calls Try.prog 8 #[v] w fun e w' => e = .returned (.tuple #[.string ⟨#[]⟩, .int .i64 22]) ∧ w = w' := by
  obtain ⟨p, cap, rfl, hl, hc⟩ := hv
  clear hc
  generalize xs.length = n at h hl
  go_enter Try.func8, Try.ntmps8
  go_wp2_with fail
  go_ret2
  exact ⟨rfl, rfl⟩
theorem Of_nil (v : Value) (w : World) (hv : Ints w v []) : Calls Try.prog 8 #[v] w fun e w' => e = .returned (.tuple #[.string ⟨#[]⟩, .int .i64 0]) ∧ Grow w w' := by
  obtain ⟨p, cap, rfl, hl, hc⟩ := hv
  clear hc
  go_enter Try.func8, Try.ntmps8
  go_wp2_with fail
  refine wp_loop_once ?_
  go_wp2_with fail
  go_ret2
  exact ⟨rfl, Grow.refl _⟩
set_option maxHeartbeats 400000 in
theorem Of_c (xs : List Int) (v : Value) (w : World) (hv : Ints w v xs) (hr : ∀ n ∈ xs, inR n) (h : xs.length ≤ 4) : Calls Try.prog 8 #[v] w fun e w' => e = .returned (.tuple #[.string ⟨(ofL xs).toArray⟩, .int .i64 0]) ∧ Grow w w' := by
  by_cases h0 : xs.length = 0
  · have : xs = [] := List.eq_nil_of_length_eq_zero h0
    subst this
    exact Of_nil v w hv
  · obtain ⟨p, cap, rfl, hl, hc⟩ := hv
    obtain ⟨b, off, rfl, hcell⟩ := hc (by omega)
    have HC := hid hcell
    have HR := hid hr
    have hT := hid (show xs.take xs.length = xs from List.take_length)
    clear hcell hr hc h0
    generalize hn : xs.length = n at h hl HC hT
    have HN := hid hn
    clear hn
    go_enter Try.func8, Try.ntmps8
    go_wp2_with fail
    go_loopw [4, 13] (fun s i wr => ∃ (j : Nat), j ≤ n ∧ i = .int .i64 j ∧ s = .string ⟨(ofL (xs.take j)).toArray⟩ ∧ Grow w wr) (fun _ i _ => n - (intOf i).toNat)
    case atStart => exact ⟨0, by omega, rfl, by simp [ofL], Grow.refl _⟩
    case round =>
      obtain ⟨j, hj, rfl, rfl, hg⟩ := hrel
      by_cases hlt : j < n
      · have hcj := hg.cell (HC.out j hlt)
        have hrj := hid (getD_inR HR.out (by rw [HN.out]; exact hlt))
        have HJ := hid (ofL_join xs j (by rw [HN.out]; exact hlt))
        have hsz := ofL_take_size xs j (by rw [HN.out]; exact h)
        have hsz2 := ordL_length (xs.getD j 0)
        generalize xs.getD j 0 = x at *
        generalize hO : ordL x = O at hsz2
        have HO := hid hO
        have hsz2' : O.length ≤ 8 := by omega
        clear hO hsz2
        go_wp2_with fail
        refine (Ordered_c x _ hrj.out.1 hrj.out.2).mono ?_
        rintro e w1 ⟨rfl, b1⟩
        rw [HO.out]
        go_wp2_with fail
        go_roundw
        case rel => exact ⟨j + 1, by omega, by go_num, by rw [← HO.out, HJ.out], Grow.trans hg b1⟩
        case measure => simp [intOf]; omega
      · obtain rfl : j = n := by omega
        go_wp2_with fail
        go_ret2
        refine ⟨?_, hg⟩
        rw [hT.out]
        rfl
theorem ROf_big (xs : List Int) (v : Value) (w : World) (hv : Ints w v xs) (h : 4 < xs.length) : Calls Try.prog 9 #[v] w fun e w' => e = .returned (.tuple #[.string ⟨#[]⟩, .int .i64 22]) ∧ w = w' := by
  obtain ⟨p, cap, rfl, hl, hc⟩ := hv
  clear hc
  generalize xs.length = n at h hl
  go_enter Try.func9, Try.ntmps9
  go_wp2_with fail
  go_ret2
  exact ⟨rfl, rfl⟩
theorem ROf_nil (v : Value) (w : World) (hv : Ints w v []) : Calls Try.prog 9 #[v] w fun e w' => e = .returned (.tuple #[.string ⟨#[]⟩, .int .i64 0]) ∧ Grow w w' := by
  obtain ⟨p, cap, rfl, hl, hc⟩ := hv
  clear hc
  go_enter Try.func9, Try.ntmps9
  go_wp2_with fail
  refine wp_loop_once ?_
  go_wp2_with fail
  go_ret2
  exact ⟨rfl, Grow.refl _⟩
set_option maxHeartbeats 400000 in
theorem ROf_c (xs : List Int) (v : Value) (w : World) (hv : Ints w v xs) (hr : ∀ n ∈ xs, inR n) (h : xs.length ≤ 4) : Calls Try.prog 9 #[v] w fun e w' => e = .returned (.tuple #[.string ⟨(ofL xs).toArray⟩, .int .i64 0]) ∧ Grow w w' := by
  by_cases h0 : xs.length = 0
  · have : xs = [] := List.eq_nil_of_length_eq_zero h0
    subst this
    exact ROf_nil v w hv
  · obtain ⟨p, cap, rfl, hl, hc⟩ := hv
    obtain ⟨b, off, rfl, hcell⟩ := hc (by omega)
    have HC := hid hcell
    have HR := hid hr
    have hT := hid (show xs.take xs.length = xs from List.take_length)
    clear hcell hr hc h0
    generalize hn : xs.length = n at h hl HC hT
    have HN := hid hn
    clear hn
    go_enter Try.func9, Try.ntmps9
    go_wp2_with fail
    go_loopw [4, 5] (fun s i wr => ∃ (j : Nat), j ≤ n ∧ i = .int .i64 j ∧ s = .string ⟨(ofL (xs.take j)).toArray⟩ ∧ Grow w wr) (fun _ i _ => n - (intOf i).toNat)
    case atStart => exact ⟨0, by omega, rfl, by simp [ofL], Grow.refl _⟩
    case round =>
      obtain ⟨j, hj, rfl, rfl, hg⟩ := hrel
      by_cases hlt : j < n
      · have hcj := hg.cell (HC.out j hlt)
        have hrj := hid (getD_inR HR.out (by rw [HN.out]; exact hlt))
        have HJ := hid (ofL_join xs j (by rw [HN.out]; exact hlt))
        have hsz := ofL_take_size xs j (by rw [HN.out]; exact h)
        have hsz2 := ordL_length (xs.getD j 0)
        generalize xs.getD j 0 = x at *
        generalize hO : ordL x = O at hsz2
        have HO := hid hO
        have hsz2' : O.length ≤ 8 := by omega
        clear hO hsz2
        go_wp2_with fail
        refine (ROrdered_c x _ hrj.out.1 hrj.out.2).mono ?_
        rintro e w1 ⟨rfl, b1⟩
        rw [HO.out]
        go_wp2_with fail
        go_roundw
        case rel => exact ⟨j + 1, by omega, by go_num, by rw [← HO.out, HJ.out], Grow.trans hg b1⟩
        case measure => simp [intOf]; omega
      · obtain rfl : j = n := by omega
        go_wp2_with fail
        go_ret2
        refine ⟨?_, hg⟩
        rw [hT.out]
        rfl
end Go.Proofs.Ytnohdicnofffdaa
