/- What the reference's State computes. -/
import Derived.Test.YtookcollmijjkaaMState
namespace Go.Proofs.Ytookcollmijjkaa
open Go.RowKit
set_option linter.unusedVariables false
set_option linter.unusedSimpArgs false
set_option maxRecDepth 100000 in
set_option maxHeartbeats 4000000 in
theorem RState_c (s : ByteArray) (w : World) (hs : s.size ≤ 17592186044416) :
    Calls Try.prog 19 #[.string s] w (StatePost (stateL s.data.toList) w) := by
  have hU := fun w => RUnvar_c s w (by unfold maxLen; omega)
  have HUA := hid (fun a (w : World) => RUnvar_c (s.extract a s.size) w (by rw [ByteArray.size_extract]; unfold maxLen; omega))
  obtain ⟨u1, u2, u3, u4⟩ := unvarP_bd s.data.toList
  have hl : s.data.toList.length = s.size := by simp
  have hR0 : stateL s.data.toList = if (unvarP s.data.toList).2 = 0 then ([], 0) else fin [] (unvarP s.data.toList).2 (rdN (unvarP s.data.toList).1 (s.data.toList.drop (unvarP s.data.toList).2)) := by
    unfold stateL fin
    split
    · rename_i h
      rcases h with h | h
      · rw [if_pos h]
      · cases e : rdN (unvarP s.data.toList).1 (s.data.toList.drop (unvarP s.data.toList).2) with
        | none => simp
        | some p =>
          obtain ⟨_, h2, _⟩ := rdN_len _ _ _ e
          rw [List.length_drop] at h2
          omega
    · rename_i h
      rw [if_neg (fun hh => h (.inl hh))]
      cases rdN (unvarP s.data.toList).1 (s.data.toList.drop (unvarP s.data.toList).2) <;> simp
  rw [hl] at u3
  generalize hR : stateL s.data.toList = R at *
  clear hR
  generalize hn1 : (unvarP s.data.toList).1 = n at *
  generalize hk1 : (unvarP s.data.toList).2 = k at *
  clear hn1 hk1 u4
  have HU := hid hU
  clear hU hl
  by_cases hk : k = 0
  · rw [if_pos hk] at hR0
    have HR := hid hR0
    clear hR0
    subst hk
    go_enter Try.func19, Try.ntmps19
    go_wp2_with fail
    refine (HU.out _).mono ?_
    rintro e w1 ⟨rfl, hg1⟩
    go_wp2_with fail
    go_ret2
    refine ⟨.slice none 0 0, ?_, ?_, hg1⟩
    · rw [HR.out]; rfl
    · rw [HR.out]; exact Ints.nil _
  · have hk0 : ((k : Int) == 0) = false := by simp; omega
    rw [if_neg hk] at hR0
    have HR := hid hR0
    clear hR0 hk
    go_enter Try.func19, Try.ntmps19
    go_wp2_with fail
    refine (HU.out _).mono ?_
    rintro e w1 ⟨rfl, hg1⟩
    have hs1 := hg1.size
    go_wp2_with fail
    go_loopw [6, 5] (fun v at_ wr => ∃ (j a : Nat) (acc : List Int), j ≤ n ∧ j ≤ a ∧ at_ = .int .i64 (a : Int) ∧ a ≤ s.size ∧ acc.length = j ∧ wr.ownsRow w.heap.size 3 1 v j (i64s acc) ∧ Hid (R = fin acc a (rdN (n - j) (s.data.toList.drop a))) ∧ Grow w wr) (fun v _ _ => n - (match v with | .slice _ j _ => j | _ => 0))
    case atStart => exact ⟨0, k, [], by omega, by omega, rfl, by omega, rfl, World.ownsRow_nil _ _ _ _, HR, hg1⟩
    case round =>
      obtain ⟨j, a, acc, hj, hja, rfl, ha, hal, hown, HK, hg⟩ := hrel
      clear HR
      have hsz := hg.size
      obtain ⟨A, c, rfl⟩ := own_formM hown
      have hwj : IntKind.u64.wrap (j : Int) = (j : Int) := by rw [IntKind.wrap_u64]; omega
      by_cases hlt : j < n
      · obtain ⟨m, hm⟩ : ∃ m, n - j = m + 1 := ⟨n - j - 1, by omega⟩
        have hUa := HUA.out a
        rw [rest_bytesM] at hUa
        obtain ⟨v1, v2, v3, _⟩ := unvarP_bd (s.data.toList.drop a)
        rw [List.length_drop] at v3
        have hl2 : s.data.toList.length = s.size := by simp
        rw [hl2] at v3
        have HK1 := HK.out
        rw [hm] at HK1
        have hj1 : (j : Int) < (n : Int) := by omega
        have ha0 : (0 : Int) ≤ (a : Int) := by omega
        have ha1 : (a : Int) ≤ (s.size : Int) := by omega
        by_cases hkk : (unvarP (s.data.toList.drop a)).2 = 0
        · rw [fin_fail hkk] at HK1
          rw [hkk] at hUa
          have HR := hid HK1
          have HUa := hid hUa
          clear HK1 hUa hm hkk v1 v2 v3 hl2 hown hal
          go_wp2_with fail
          refine (HUa.out _).mono ?_
          rintro e w1 ⟨rfl, hg1⟩
          go_wp2_with fail
          go_ret2
          refine ⟨.slice none 0 0, ?_, ?_, hg.trans hg1⟩
          · rw [HR.out]; rfl
          · rw [HR.out]; exact Ints.nil _
        · rw [fin_step hkk] at HK1
          rw [show m = n - (j + 1) by omega] at HK1
          have hUf := fun w => RUnfold_c ((unvarP (s.data.toList.drop a)).1 : Int) w (by omega) (by omega)
          generalize (unvarP (s.data.toList.drop a)).1 = u at *
          generalize (unvarP (s.data.toList.drop a)).2 = q at *
          have hq0 : ((q : Int) == 0) = false := by simp; omega
          have hq1 : 1 ≤ q := by omega
          generalize unfoldV (u : Int) = X at *
          have HR := hid HK1
          have HUa := hid hUa
          have HUf := hid hUf
          clear HK1 hUa hUf hm hkk hl2 HK
          go_wp2_with fail
          refine (HUa.out _).mono ?_
          rintro e w2 ⟨rfl, hg2⟩
          have hown2 := own_growM hown hg2
          have hg3 := hg.trans hg2
          have hsz3 := hg3.size
          clear hown hg2 hg
          go_wp2_with fail
          refine (HUf.out _).mono ?_
          rintro e w4 ⟨rfl, rfl⟩
          go_wp2_with (at_builtin; refine wpList_push rfl _ _ 22 rfl 3 (.int .i64 0) 1 8 Try.underlying22 infoIntM rfl (by omega) w.heap.size _ j _ rfl hown2 [_] rfl rfl (by simp [Value.oneCell']) (by unfold maxLen; omega) (by omega) hsz3 ?_)
          intro v' w' ho hgr hs'
          rw [push_intM] at ho
          have hg6 : Grow w w' := Row.below hg3 hgr hsz3 (fun k hk => (hown2.lt k hk).1)
          clear hown2 hgr hg3
          obtain ⟨A', c', rfl⟩ := own_formM ho
          go_wp2_with fail
          go_roundw
          case rel => exact ⟨j + 1, a + q, acc ++ [X], by omega, by omega, by go_num, by omega, by rw [List.length_append, hal]; rfl, ho, HR, hg6⟩
          case measure => simp; omega
      · obtain rfl : j = n := by omega
        have hI := hid (Ints.of_own hown (by omega))
        have HR := hid (show R = (acc, a) by rw [HK.out, Nat.sub_self]; simp [rdN, fin])
        clear HK hown
        go_wp2_with fail
        go_ret2
        rw [HR.out]
        exact ⟨_, rfl, hI.out, hg⟩
end Go.Proofs.Ytookcollmijjkaa
