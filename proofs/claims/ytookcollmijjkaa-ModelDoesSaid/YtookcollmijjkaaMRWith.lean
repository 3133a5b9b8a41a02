/- What the reference's without and with compute: a list without a number, and with it in its place. -/
import Derived.Test.YtookcollmijjkaaMInts
import Derived.Test.YtookcollmijjkaaMListDo
namespace Go.Proofs.Ytookcollmijjkaa
open Go.RowKit
set_option linter.unusedVariables false
set_option linter.unusedSimpArgs false
theorem take_succ_getD (xs : List Int) (k : Nat) (hk : k < xs.length) : xs.take (k + 1) = xs.take k ++ [xs.getD k 0] := by
  rw [List.take_succ_eq_append_getElem hk]; simp [List.getD, hk]
theorem drop_getD (xs : List Int) (k : Nat) (hk : k < xs.length) : xs.drop k = xs.getD k 0 :: xs.drop (k + 1) := by
  rw [List.drop_eq_getElem_cons hk]; simp [List.getD, hk]
theorem filter_len_le (xs : List Int) (x : Int) (k : Nat) : ((xs.take k).filter (fun y => decide (y ≠ x))).length ≤ k := by
  have := List.length_filter_le (fun y => decide (y ≠ x)) (xs.take k)
  rw [List.length_take] at this
  omega
set_option maxRecDepth 100000 in
set_option maxHeartbeats 4000000 in
theorem without_c (xs : List Int) (x : Int) (v : Value) (w : World) (hv : Ints w v xs) (hn : xs.length + 1 ≤ 17592186044416) :
    Calls Try.prog 28 #[v, .int .i64 x] w fun e w' => ∃ v', e = .returned v' ∧ Ints w' v' (xs.filter (fun y => decide (y ≠ x))) ∧ Grow w w' ∧ ∀ b off n c, v' = .slice (some ⟨b, off, none⟩) n c → w.heap.size ≤ b := by
  obtain ⟨p, cap, rfl, hc⟩ := hv.at
  have HC := hid hc
  have HT := hid (fun k hk => take_succ_getD xs k hk)
  have HL := hid (fun k => filter_len_le xs x k)
  clear hc hv
  obtain ⟨n, hN⟩ : ∃ n, n = xs.length := ⟨_, rfl⟩
  rw [← hN]
  rw [← hN] at hn
  have HN := hid hN
  clear hN
  go_enter Try.func28, Try.ntmps28
  go_wp2_with fail
  go_loopw [6, 5] (fun i s wr => ∃ k : Nat, k ≤ n ∧ i = .int .i64 (k : Int) ∧ Hid (wr.ownsRow w.heap.size 3 1 s ((xs.take k).filter (fun y => decide (y ≠ x))).length (i64s ((xs.take k).filter (fun y => decide (y ≠ x))))) ∧ Grow w wr) (fun i _ _ => n - (intOf i).toNat)
  case atStart => exact ⟨0, by omega, rfl, hid (by simpa [i64s] using World.ownsRow_nil _ _ _ _), Grow.refl _⟩
  case round =>
    obtain ⟨k, hk, rfl, HO, hg⟩ := hrel
    have hown := HO.out
    obtain ⟨A, c, rfl⟩ := own_formM hown
    have HFar := hid (show ∀ b off, A = some ⟨b, off, none⟩ → w.heap.size ≤ b from fun b off h => (hown.lt b (by rw [h]; rfl)).1)
    by_cases hlt : k < n
    · obtain ⟨b0, o0, rfl, a0⟩ := HC.out k (by have := HN.out; omega)
      replace a0 := hg.cell a0
      have hk0 : (0 : Int) ≤ (k : Int) := by omega
      have hk1 : (k : Int) < (n : Int) := by omega
      have ht := HT.out k (by have := HN.out; omega)
      have hle := HL.out k
      by_cases hxy : xs.getD k 0 = x
      · have hf : (xs.take (k + 1)).filter (fun y => decide (y ≠ x)) = (xs.take k).filter (fun y => decide (y ≠ x)) := by rw [ht, List.filter_append]; generalize xs.getD k 0 = y at hxy ⊢; simp [hxy]
        have HF := hid hf
        have HY := hid hxy
        clear hf ht hown
        have hd : (xs.getD k 0 != x) = false := by generalize xs.getD k 0 = y at hxy ⊢; simp [hxy]
        clear hxy
        generalize xs.getD k 0 = y at *
        go_wp2_with fail
        go_roundw
        case rel => exact ⟨k + 1, by omega, by go_num, hid (by rw [HF.out]; exact HO.out), hg⟩
        case measure => simp [intOf]; omega
      · have hf : (xs.take (k + 1)).filter (fun y => decide (y ≠ x)) = (xs.take k).filter (fun y => decide (y ≠ x)) ++ [xs.getD k 0] := by rw [ht, List.filter_append]; generalize xs.getD k 0 = y at hxy ⊢; simp [hxy]
        have HF := hid hf
        clear hf ht
        have hd : (xs.getD k 0 != x) = true := by generalize xs.getD k 0 = y at hxy ⊢; simp [hxy]
        have HY := hid hxy
        clear hxy
        generalize xs.getD k 0 = y at *
        generalize (xs.take k).filter (fun y => decide (y ≠ x)) = acc at *
        obtain ⟨m, hM⟩ : ∃ m, m = acc.length := ⟨_, rfl⟩
        rw [← hM] at hown
        rw [← hM] at hle
        rw [← hM]
        have HM := hid hM
        clear hM HO
        have hsz := hg.size
        go_wp2_with (at_builtin; refine wpList_pushH _ rfl rfl _ _ 22 rfl 3 (.int .i64 0) 1 8 Try.underlying22 infoIntM rfl (by omega) w.heap.size _ m _ rfl hown [_] rfl rfl (by simp [Value.oneCell']) (by unfold maxLen; omega) (by omega) hsz ?_)
        intro v' w' ho hgr hs'
        rw [push_intM] at ho
        have hg6 : Grow w w' := Row.below hg hgr hsz (fun k hk => (hown.lt k hk).1)
        go_wp2_with fail
        go_roundw
        case rel => exact ⟨k + 1, by omega, by go_num, hid (by rw [HF.out, List.length_append, ← HM.out]; exact ho), hg6⟩
        case measure => simp [intOf]; omega
    · obtain rfl : k = n := by omega
      have e4 : xs.take k = xs := List.take_of_length_le (by have := HN.out; omega)
      have hI := Ints.of_own hown (by have := HL.out k; omega)
      rw [e4] at hI
      have HI := hid hI
      clear hI e4 hown
      obtain ⟨m, hM⟩ : ∃ m, m = ((xs.take k).filter (fun y => decide (y ≠ x))).length := ⟨_, rfl⟩
      have e5 : ((xs.take k).filter (fun y => decide (y ≠ x))).length = m := hM.symm
      have HI' := HI
      have e6 : xs.take k = xs := List.take_of_length_le (by have := HN.out; omega)
      rw [e6] at e5
      rw [e5] at HI'
      rw [e6, e5]
      clear HI e6
      have HI2 := hid HI'.out
      go_wp2_with fail
      go_ret
      exact ⟨_, rfl, HI2.out, hg, fun b off n c h => HFar.out b off (by cases h; rfl)⟩
set_option maxRecDepth 100000 in
set_option maxHeartbeats 4000000 in
theorem with_c (xs : List Int) (x : Int) (v : Value) (w : World) (hv : Ints w v xs) (hn : xs.length + 1 ≤ 17592186044416) :
    Calls Try.prog 29 #[v, .int .i64 x] w fun e w' => ∃ v', e = .returned v' ∧ Ints w' v' (insL x xs) ∧ Grow w w' ∧ ∀ b off n c, v' = .slice (some ⟨b, off, none⟩) n c → w.heap.size ≤ b := by
  obtain ⟨p, cap, rfl, hc⟩ := hv.at
  have HC := hid hc
  have HT := hid (fun k hk => drop_getD xs k hk)
  clear hc hv
  obtain ⟨n, hN⟩ : ∃ n, n = xs.length := ⟨_, rfl⟩
  rw [← hN]
  rw [← hN] at hn
  have HN := hid hN
  clear hN
  go_enter Try.func29, Try.ntmps29
  go_wp2_with fail
  go_loopw [7, 5, 6] (fun i s d wr => ∃ (k : Nat) (b : Bool) (acc : List Int) (m : Nat), k ≤ n ∧ i = .int .i64 (k : Int) ∧ d = .bool b ∧ m ≤ k + 1 ∧ (b = false → m ≤ k) ∧ Hid (insL x xs = acc ++ (if b = true then xs.drop k else insL x (xs.drop k))) ∧ Hid (m = acc.length) ∧ Hid (wr.ownsRow w.heap.size 3 1 s m (i64s acc)) ∧ Grow w wr) (fun i _ _ _ => n - (intOf i).toNat)
  case atStart => exact ⟨0, false, [], 0, by omega, rfl, rfl, by omega, by omega, hid (by simp), hid rfl, hid (World.ownsRow_nil _ _ _ _), Grow.refl _⟩
  case round =>
    obtain ⟨k, b, acc, m, hk, rfl, rfl, hm, hmf, HK, HM, HO, hg⟩ := hrel
    have hown := HO.out
    have hsz := hg.size
    obtain ⟨A, c, rfl⟩ := own_formM hown
    have HFar := hid (show ∀ b off, A = some ⟨b, off, none⟩ → w.heap.size ≤ b from fun b off h => (hown.lt b (by rw [h]; rfl)).1)
    by_cases hlt : k < n
    · obtain ⟨b0, o0, rfl, a0⟩ := HC.out k (by have := HN.out; omega)
      have ha0 := hid a0
      replace a0 := hg.cell a0
      have hk0 : (0 : Int) ≤ (k : Int) := by omega
      have hk1 : (k : Int) < (n : Int) := by omega
      have ht := HT.out k (by have := HN.out; omega)
      have hK1 := HK.out
      rw [ht] at hK1
      cases b with
      | true =>
        rw [if_pos rfl] at hK1
        have HK2 := hid hK1
        clear hK1 ht HK hmf
        generalize xs.getD k 0 = y at *
        go_wp2_with (at_builtin; refine wpList_pushH _ rfl rfl _ _ 22 rfl 3 (.int .i64 0) 1 8 Try.underlying22 infoIntM rfl (by omega) w.heap.size _ m _ rfl hown [_] rfl rfl (by simp [Value.oneCell']) (by unfold maxLen; omega) (by omega) hsz ?_)
        intro v' w' ho hgr hs'
        rw [push_intM] at ho
        have hg6 : Grow w w' := Row.below hg hgr hsz (fun k hk => (hown.lt k hk).1)
        go_wp2_with fail
        go_roundw
        case rel => exact ⟨k + 1, true, acc ++ [y], m + 1, by omega, by go_num, rfl, by omega, (fun h => by cases h), hid (by rw [HK2.out, if_pos rfl, List.append_assoc]; rfl), hid (by rw [List.length_append, ← HM.out]; rfl), hid ho, hg6⟩
        case measure => simp [intOf]; omega
      | false =>
        rw [if_neg (by simp)] at hK1
        have hmk : m ≤ k := hmf rfl
        clear hmf
        by_cases hxy : x < xs.getD k 0
        · have e : insL x (xs.getD k 0 :: xs.drop (k + 1)) = x :: xs.getD k 0 :: xs.drop (k + 1) := by show (if x < xs.getD k 0 then _ else _) = _; rw [if_pos hxy]
          rw [e] at hK1
          have HK2 := hid hK1
          have hd : decide (x < xs.getD k 0) = true := decide_eq_true hxy
          clear hK1 ht HK e hxy
          generalize xs.getD k 0 = y at *
          go_wp2_with (at_builtin; refine wpList_pushH _ rfl rfl _ _ 22 rfl 3 (.int .i64 0) 1 8 Try.underlying22 infoIntM rfl (by omega) w.heap.size _ m _ rfl hown [_] rfl rfl (by simp [Value.oneCell']) (by unfold maxLen; omega) (by omega) hsz ?_)
          intro v' w' ho hgr hs'
          rw [push_intM] at ho
          have hg6 : Grow w w' := Row.below hg hgr hsz (fun k hk => (hown.lt k hk).1)
          replace a0 := hg6.cell ha0.out
          have hsz6 := hg6.size
          obtain ⟨A2, c2, rfl⟩ := own_formM ho
          go_wp2_with (at_builtin; refine wpList_pushH _ rfl rfl _ _ 22 rfl 3 (.int .i64 0) 1 8 Try.underlying22 infoIntM rfl (by omega) w.heap.size _ (m + 1) _ rfl ho [_] rfl rfl (by simp [Value.oneCell']) (by unfold maxLen; omega) (by omega) hsz6 ?_)
          intro v7 w7 ho7 hgr7 hs7
          rw [push_intM] at ho7
          have hg7 : Grow w w7 := Row.below hg6 hgr7 hsz6 (fun k hk => (ho.lt k hk).1)
          go_wp2_with fail
          go_roundw
          case rel => exact ⟨k + 1, true, acc ++ [x] ++ [y], m + 2, by omega, by go_num, rfl, by omega, (fun h => by cases h), hid (by rw [HK2.out, if_pos rfl, List.append_assoc, List.append_assoc]; rfl), hid (by rw [List.length_append, List.length_append, ← HM.out]; rfl), hid ho7, hg7⟩
          case measure => simp [intOf]; omega
        · have e : insL x (xs.getD k 0 :: xs.drop (k + 1)) = xs.getD k 0 :: insL x (xs.drop (k + 1)) := by show (if x < xs.getD k 0 then _ else _) = _; rw [if_neg hxy]
          rw [e] at hK1
          have HK2 := hid hK1
          have hd : decide (x < xs.getD k 0) = false := decide_eq_false hxy
          clear hK1 ht HK e hxy
          generalize xs.getD k 0 = y at *
          go_wp2_with (at_builtin; refine wpList_pushH _ rfl rfl _ _ 22 rfl 3 (.int .i64 0) 1 8 Try.underlying22 infoIntM rfl (by omega) w.heap.size _ m _ rfl hown [_] rfl rfl (by simp [Value.oneCell']) (by unfold maxLen; omega) (by omega) hsz ?_)
          intro v' w' ho hgr hs'
          rw [push_intM] at ho
          have hg6 : Grow w w' := Row.below hg hgr hsz (fun k hk => (hown.lt k hk).1)
          go_wp2_with fail
          go_roundw
          case rel => exact ⟨k + 1, false, acc ++ [y], m + 1, by omega, by go_num, rfl, by omega, (fun _ => by omega), hid (by rw [HK2.out, if_neg (by simp), List.append_assoc]; rfl), hid (by rw [List.length_append, ← HM.out]; rfl), hid ho, hg6⟩
          case measure => simp [intOf]; omega
    · obtain rfl : k = n := by omega
      have e4 : xs.drop k = [] := List.drop_eq_nil_of_le (by have := HN.out; omega)
      have hK1 := HK.out
      rw [e4] at hK1
      clear HK e4
      cases b with
      | true =>
        rw [if_pos rfl, List.append_nil] at hK1
        have HI := hid (Ints.of_own hown (by omega))
        have HK2 := hid hK1
        clear hK1 hown HO
        go_wp2_with fail
        go_ret
        exact ⟨_, rfl, by rw [HK2.out]; exact HI.out, hg, fun b off n c h => HFar.out b off (by cases h; rfl)⟩
      | false =>
        rw [if_neg (by simp)] at hK1
        have hmk : m ≤ k := hmf rfl
        clear hmf
        have HK2 := hid hK1
        clear hK1
        go_wp2_with (at_builtin; refine wpList_pushH _ rfl rfl _ _ 22 rfl 3 (.int .i64 0) 1 8 Try.underlying22 infoIntM rfl (by omega) w.heap.size _ m _ rfl hown [_] rfl rfl (by simp [Value.oneCell']) (by unfold maxLen; omega) (by omega) hsz ?_)
        intro v' w' ho hgr hs'
        rw [push_intM] at ho
        have hg6 : Grow w w' := Row.below hg hgr hsz (fun k hk => (hown.lt k hk).1)
        have HI := hid (Ints.of_own ho (by omega))
        have HFar2 := hid (fun b off n c (h : v' = .slice (some ⟨b, off, none⟩) n c) => (ho.lt b (by rw [h]; rfl)).1)
        go_wp2_with fail
        go_ret
        exact ⟨_, rfl, by rw [HK2.out]; exact HI.out, hg6, HFar2.out⟩
end Go.Proofs.Ytookcollmijjkaa
