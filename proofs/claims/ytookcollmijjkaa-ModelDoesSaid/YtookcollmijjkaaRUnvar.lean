/- What the reference's Unvar computes. -/
import Derived.Test.YtookcollmijjkaaRVar
import Derived.Test.YtookcollmijjkaaUnvar
namespace Go.Proofs.Ytookcollmijjkaa
open Go.RowKit
set_option linter.unusedVariables false
def RConts (s : ByteArray) (j : Nat) : Prop := ∀ i, i < j → 128 ≤ (s.data.toList.getD i 0).toNat
theorem RConts.step {s : ByteArray} {j : Nat} (h : RConts s j) (hj : j < s.size) (h128 : ¬ (s[j]).toNat < 128) : RConts s (j + 1) := by
  intro i hi
  by_cases e : i = j
  · subst e
    rw [getD_byte s i hj]
    omega
  · exact h i (by omega)
theorem runv_none {s : ByteArray} {j : Nat} (hc : RConts s j) (hj : j = 10 ∨ j = s.size) : unvarP s.data.toList = (0, 0) :=
  unvarP_none _ fun i h1 h2 => hc i (by have h3 : i < s.size := (by simpa using h2); omega)
theorem runv_add (s : ByteArray) (j V U : Nat) (h : j < s.size) (hV : V = valV (s.data.toList.take j)) (hU : U = 128 ^ j % 18446744073709551616) (h9 : j ≤ 9) :
    IntKind.u64.wrap ((V : Int) + IntKind.u64.wrap ((s[j].toNat : Int) % 128 * (U : Int))) = ((valV (s.data.toList.take (j + 1)) % 18446744073709551616 : Nat) : Int) :=
  valV_add s.data.toList j V U (by simpa using h) hV hU h9
theorem extract_take (s : ByteArray) (k : Nat) : (s.extract 0 k).toList = s.data.toList.take k := by
  rw [ByteArray.toList_eq]
  simp [ByteArray.data_extract]
set_option maxRecDepth 100000 in
set_option maxHeartbeats 1000000 in
theorem RUnvar_c (s : ByteArray) (w : World) (hs : s.size ≤ maxLen) : Calls Try.prog 33 #[.string s] w fun e w' => e = .returned (.tuple #[.int .u64 ((unvarP s.data.toList).1 : Nat), .int .i64 ((unvarP s.data.toList).2 : Nat)]) ∧ Below w.heap.size w w' := by
  unfold maxLen at hs
  obtain ⟨K, hK, hK8⟩ : ∃ K : Nat, min s.size 10 = K ∧ K ≤ 10 ∧ K ≤ s.size := ⟨min s.size 10, rfl, by omega, by omega⟩
  have hKK := hid (show K = 10 ∨ K = s.size by omega)
  clear hK
  generalize hP : unvarP s.data.toList = p
  have HP := hid hP
  clear hP
  go_enter Try.func33, Try.ntmps33
  go_wp2_with fail
  go_loop [4, 5, 6] (fun n u i => ∃ (j V U : Nat), j ≤ K ∧ i = .int .i64 j ∧ n = .int .u64 (V : Int) ∧ u = .int .u64 (U : Int) ∧ Hid (V = valV (s.data.toList.take j) % 18446744073709551616) ∧ Hid (U = 128 ^ j % 18446744073709551616) ∧ Hid (RConts s j)) (fun _ _ i => 10 - (intOf i).toNat)
  case atStart => exact ⟨0, 0, 1, by omega, rfl, rfl, rfl, hid (by simp [valV]), hid (by decide), hid (fun i h => by omega)⟩
  case round =>
    obtain ⟨j, V, U, hj, rfl, rfl, rfl, HV, HU, HC⟩ := hrel
    by_cases hlt : j < K
    · have hb := (s[j]).toNat_lt
      have hjs : j < s.size := by omega
      have hj10 : (j : Int) < 10 := by omega
      have hlj : j < s.data.toList.length := by simpa using hjs
      have hV' : V = valV (s.data.toList.take j) := by
        have h1 := valV_take_lt s.data.toList j
        have h2 := pow128_le j (by omega)
        rw [HV.out]
        exact Nat.mod_eq_of_lt (by omega)
      have HS := hid (runv_add s j V U hjs hV' HU.out (by omega))
      have HU2 := hid (unit128_step j U HU.out)
      have hgd := getD_byte s j hjs
      clear hV'
      by_cases h128 : (s[j]).toNat < 128
      · have ht := unvar_test s.data.toList j hlj (by omega) HC.out (by rw [hgd]; exact h128)
        have hat := unvarP_at s.data.toList j hlj (by omega) HC.out (by rw [hgd]; exact h128)
        rw [HP.out] at hat
        rw [hgd] at ht hat
        have HT := hid ht
        have HA := hid hat
        clear ht hat
        generalize hN : valV (s.data.toList.take (j + 1)) % 18446744073709551616 = N at HS HT
        have hNl : N < 18446744073709551616 := by rw [← hN]; exact Nat.mod_lt _ (by decide)
        have HN := hid hN
        clear hN hgd
        go_wp2_with fail
        rw [HS.out, HU2.out]
        refine wp_rely [.eq (.int .u64 (N : Int)), .eq (.string ⟨(varL N).toArray⟩), .eq (.string s), .eq (.int .i64 (j : Int)), .eq (.int .i64 ((j : Int) + 1)), .eq (.string (s.extract 0 (j + 1))), .eq (.bool (okLast j s[j]))] (by kernel_rfl) (by kernel_rfl) (by kernel_rfl) ?_ ?_
        · simp only [relyGoals]
          refine ⟨?_, ?_, ?_, ?_, ?_, ?_, ?_, trivial⟩
          all_goals intro t w' hsz hg hdd hfr
          all_goals simp only [depsDid, Did, perAt, List.getElem?_cons_zero, List.getElem?_cons_succ, List.getD_cons_zero, List.getD_cons_succ, Per.eq, and_true, Array.getD_eq_getD_getElem?] at hdd
          all_goals rw [if_pos (by rfl)]
          all_goals simp only [perAt, List.getD_cons_zero, List.getD_cons_succ, Per.eq]
          · have h0 := hfr 4 rfl
            simp only [Array.getD_eq_getD_getElem?] at h0
            simp [execOp, Act.eval, h0, relyUpon, Grow.refl]
          · simp [Act.eval, hdd, relyUpon, go_sem]
            exact (RVar_c N w' hNl).mono fun e w'' ⟨h1, h2⟩ => ⟨h1, h2⟩
          · have h0 := hfr 0 rfl
            simp only [Array.getD_eq_getD_getElem?] at h0
            simp [execOp, Act.eval, h0, relyUpon, Grow.refl]
          · have h0 := hfr 6 rfl
            simp only [Array.getD_eq_getD_getElem?] at h0
            simp [execOp, Act.eval, h0, relyUpon, Grow.refl]
          · simp [execOp, Act.eval, hdd, relyUpon, go_sem, Grow.refl]
            rw [IntKind.wrap_i64]
            omega
          · have hle : (0 ≤ (j : Int) + 1 ∧ (j : Int) + 1 ≤ (s.size : Int)) = True := by simp; omega
            simp [execOp, Act.eval, hdd, relyUpon, go_sem, Grow.refl, hle]
          · simp [execOp, Act.eval, hdd, relyUpon, go_sem]
            exact ⟨Grow.refl _, by rw [extract_take]; exact HT.out.1⟩
        · intro w1 hg
          simp only [relyEnd, List.headD_cons, List.tail_cons, Per.eq]
          rintro _ rfl _ rfl _ rfl _ rfl _ rfl _ rfl _ rfl
          go_simp
          by_cases hok : okLast j s[j] = true
          · rw [hok]
            have e : p = (valV (s.data.toList.take (j + 1)), j + 1) := by rw [HA.out, if_pos hok]
            have HE := hid (HT.out.2 hok)
            subst e
            clear HT HA HS HP HC HN
            go_wp2_with fail
            go_ret2
            exact ⟨by rw [← HE.out]; rfl, hg⟩
          · rw [Bool.not_eq_true] at hok
            have e : p = (0, 0) := by rw [HA.out, if_neg (by rw [hok]; decide)]
            rw [hok]
            subst e
            clear HT HA HS HP HC HN
            go_wp2_with fail
            go_ret2
            exact ⟨rfl, hg⟩
      · have hge : 128 ≤ (s[j]).toNat := by omega
        have HC2 := hid (HC.out.step hjs h128)
        clear h128 hgd
        go_wp2_with fail
        go_round
        case rel => exact ⟨j + 1, _, _, by omega, by go_num, by rw [HS.out], by rw [HU2.out], hid rfl, hid rfl, HC2⟩
        case measure => simp [intOf]; omega
    · obtain rfl : j = K := by omega
      have e : p = (0, 0) := by rw [← HP.out]; exact runv_none HC.out hKK.out
      subst e
      by_cases c1 : j < s.size
      · have c2 : ¬ (j : Int) < 10 := by have := hKK.out; omega
        go_wp2_with fail
        go_ret2
        exact ⟨rfl, Below.refl _ _⟩
      · go_wp2_with fail
        go_ret2
        exact ⟨rfl, Below.refl _ _⟩
end Go.Proofs.Ytookcollmijjkaa
