/- What the lexer's small functions compute: classes of bytes, runs of them, numbers of digits, marks. -/
import Derived.Test.YteilkcdbdpkbfaaDoorRows
import Derived.Test.YteilkcdbdpkbfaaDoorRely
import Derived.Test.YteilkcdbdpkbfaaDoorLexPlain
namespace Go.Proofs.YteilkcdbdpkbfaaDoor
open Go.RowKit
set_option linter.unusedVariables false
set_option linter.unusedSimpArgs false

theorem tw_lt (p : UInt8 → Bool) : ∀ (L : List UInt8) (k : Nat) (h : k < (L.takeWhile p).length) (h2 : k < L.length), p L[k] = true
  | [], k, h, h2 => by simp at h2
  | a :: l, k, h, h2 => by
    by_cases ha : p a
    · cases k with
      | zero => exact ha
      | succ k =>
        simp only [List.takeWhile_cons, ha, if_true, List.length_cons] at h
        exact tw_lt p l k (by omega) (by simpa using h2)
    · simp [List.takeWhile_cons, ha] at h
theorem tw_end (p : UInt8 → Bool) : ∀ (L : List UInt8) (h2 : (L.takeWhile p).length < L.length), p L[(L.takeWhile p).length] = false
  | [], h2 => by simp at h2
  | a :: l, h2 => by
    by_cases ha : p a
    · have e : ((a :: l).takeWhile p).length = (l.takeWhile p).length + 1 := by simp [List.takeWhile_cons, ha]
      have := tw_end p l (by rw [e, List.length_cons] at h2; omega)
      simp only [e, List.getElem_cons_succ]
      exact this
    · have e : ((a :: l).takeWhile p).length = 0 := by simp [List.takeWhile_cons, ha]
      simp only [e, List.getElem_cons_zero]
      simpa using ha
theorem data_at (s : ByteArray) (k : Nat) (h : k < s.size) : s.data.toList[k]'(by simpa using h) = s[k] := rfl
theorem dec_and {p q : Prop} [Decidable p] [Decidable q] (hp : p) : (decide p && decide q) = decide q := by simp [hp]

theorem letter_c (x : UInt8) (w : World) : Calls Tryd.prog 40 #[.int .u8 (x.toNat : Int)] w fun e w' => e = .returned (.bool (isLet x)) ∧ w = w' := by
  by_cases h1 : 97 ≤ x.toNat
  · by_cases h2 : x.toNat ≤ 122
    · have hb : isLet x = true := by simp [isLet, h1, h2]
      rw [hb]
      clear hb
      go_enter Tryd.func40, Tryd.ntmps40
      go_wp2_with fail
      go_ret
      exact ⟨by simp <;> omega, rfl⟩
    · have hb : isLet x = false := by simp [isLet, h1, h2]
      have h3 : 122 < x.toNat := by omega
      rw [hb]
      clear hb h2
      go_enter Tryd.func40, Tryd.ntmps40
      go_wp2_with fail
      go_ret
      exact ⟨by simp <;> omega, rfl⟩
  · have hb : isLet x = false := by simp [isLet, h1]
    rw [hb]
    clear hb
    go_enter Tryd.func40, Tryd.ntmps40
    go_wp2_with fail
    go_ret
    exact ⟨by simp <;> omega, rfl⟩
set_option maxRecDepth 100000 in
theorem run_letter (s : ByteArray) (w : World) (hs : s.size ≤ 140737488351232) : Calls Tryd.prog 39 #[.string s, .func (.func 40) #[] #[]] w fun e w' => e = .returned (.int .i64 ((s.data.toList.takeWhile isLet).length : Int)) ∧ w = w' := by
  have h1 := tw_lt isLet s.data.toList
  have h2 := tw_end isLet s.data.toList
  have hle := takeWhile_len_le isLet s.data.toList
  have hsz : s.data.toList.length = s.size := by simp
  generalize (s.data.toList.takeWhile isLet).length = n at *
  have HC := hid (fun (x : UInt8) (w : World) => letter_c x w)
  go_enter Tryd.func39, Tryd.ntmps39
  go_wp2_with fail
  go_loop [5] (fun i => ∃ k : Nat, k ≤ n ∧ i = .int .i64 k) (fun i => s.size - (intOf i).toNat)
  case atStart => exact ⟨0, by omega, rfl⟩
  case round =>
    obtain ⟨k, hk, rfl⟩ := hrel
    by_cases hlt : k < n
    · have hks : k < s.size := by omega
      have hp := hid (h1 k hlt (by omega))
      rw [data_at s k hks] at hp
      clear h1 h2 hsz
      go_wp2_with fail
      refine (HC.out _ _).mono ?_
      rintro e w1 ⟨rfl, rfl⟩
      rw [hp.out]
      go_wp2_with fail
      go_round
      case rel => exact ⟨k + 1, by omega, by go_num⟩
      case measure => simp [intOf]; omega
    · obtain rfl : k = n := by omega
      by_cases hks : k < s.size
      · have hp := hid (h2 (by omega))
        rw [data_at s k hks] at hp
        clear h1 h2 hsz
        go_wp2_with fail
        refine (HC.out _ _).mono ?_
        rintro e w1 ⟨rfl, rfl⟩
        rw [hp.out]
        go_wp2_with fail
        go_ret
        exact ⟨rfl, rfl⟩
      · clear h1 h2 hsz
        go_wp2_with fail
        go_ret
        exact ⟨rfl, rfl⟩

theorem digit_c (x : UInt8) (w : World) : Calls Tryd.prog 41 #[.int .u8 (x.toNat : Int)] w fun e w' => e = .returned (.bool (isDig x)) ∧ w = w' := by
  by_cases h1 : 48 ≤ x.toNat
  · by_cases h2 : x.toNat ≤ 57
    · have hb : isDig x = true := by simp [isDig, h1, h2]
      rw [hb]
      clear hb
      go_enter Tryd.func41, Tryd.ntmps41
      go_wp2_with fail
      go_ret
      exact ⟨by simp <;> omega, rfl⟩
    · have hb : isDig x = false := by simp [isDig, h1, h2]
      have h3 : 57 < x.toNat := by omega
      rw [hb]
      clear hb h2
      go_enter Tryd.func41, Tryd.ntmps41
      go_wp2_with fail
      go_ret
      exact ⟨by simp <;> omega, rfl⟩
  · have hb : isDig x = false := by simp [isDig, h1]
    rw [hb]
    clear hb
    go_enter Tryd.func41, Tryd.ntmps41
    go_wp2_with fail
    go_ret
    exact ⟨by simp <;> omega, rfl⟩
set_option maxRecDepth 100000 in
theorem run_digit (s : ByteArray) (w : World) (hs : s.size ≤ 140737488351232) : Calls Tryd.prog 39 #[.string s, .func (.func 41) #[] #[]] w fun e w' => e = .returned (.int .i64 ((s.data.toList.takeWhile isDig).length : Int)) ∧ w = w' := by
  have h1 := tw_lt isDig s.data.toList
  have h2 := tw_end isDig s.data.toList
  have hle := takeWhile_len_le isDig s.data.toList
  have hsz : s.data.toList.length = s.size := by simp
  generalize (s.data.toList.takeWhile isDig).length = n at *
  have HC := hid (fun (x : UInt8) (w : World) => digit_c x w)
  go_enter Tryd.func39, Tryd.ntmps39
  go_wp2_with fail
  go_loop [5] (fun i => ∃ k : Nat, k ≤ n ∧ i = .int .i64 k) (fun i => s.size - (intOf i).toNat)
  case atStart => exact ⟨0, by omega, rfl⟩
  case round =>
    obtain ⟨k, hk, rfl⟩ := hrel
    by_cases hlt : k < n
    · have hks : k < s.size := by omega
      have hp := hid (h1 k hlt (by omega))
      rw [data_at s k hks] at hp
      clear h1 h2 hsz
      go_wp2_with fail
      refine (HC.out _ _).mono ?_
      rintro e w1 ⟨rfl, rfl⟩
      rw [hp.out]
      go_wp2_with fail
      go_round
      case rel => exact ⟨k + 1, by omega, by go_num⟩
      case measure => simp [intOf]; omega
    · obtain rfl : k = n := by omega
      by_cases hks : k < s.size
      · have hp := hid (h2 (by omega))
        rw [data_at s k hks] at hp
        clear h1 h2 hsz
        go_wp2_with fail
        refine (HC.out _ _).mono ?_
        rintro e w1 ⟨rfl, rfl⟩
        rw [hp.out]
        go_wp2_with fail
        go_ret
        exact ⟨rfl, rfl⟩
      · clear h1 h2 hsz
        go_wp2_with fail
        go_ret
        exact ⟨rfl, rfl⟩

/-- Numbers of digits: what stands ahead of the first digit that makes too much. -/
theorem valF_snoc : ∀ (l : List UInt8) (b : UInt8) (a : Nat), valF (l ++ [b]) a = (valF l a).bind fun v => if 10 * v + (b.toNat - 48) > 1099511627776 then none else some (10 * v + (b.toNat - 48))
  | [], b, a => by unfold valF; rfl
  | c :: l, b, a => by
    simp only [List.cons_append]
    unfold valF
    split
    · rfl
    · exact valF_snoc l b _
theorem valF_append : ∀ (l m : List UInt8) (a : Nat), valF (l ++ m) a = (valF l a).bind (valF m)
  | [], m, a => by simp [valF]
  | c :: l, m, a => by
    simp only [List.cons_append]
    unfold valF
    split
    · rfl
    · exact valF_append l m _
theorem valF_le : ∀ (l : List UInt8) (a v : Nat), a ≤ 1099511627776 → valF l a = some v → v ≤ 1099511627776
  | [], a, v, ha, h => by injection h with h; omega
  | c :: l, a, v, ha, h => by
    unfold valF at h
    split at h
    · cases h
    · exact valF_le l _ v (by omega) h
theorem digit_at (s : ByteArray) (hd : ∀ b ∈ s.data.toList, isDig b = true) (k : Nat) (h : k < s.size) : 48 ≤ (s[k]).toNat ∧ (s[k]).toNat ≤ 57 := by
  have := hd s[k] (by rw [← data_at s k h]; exact List.getElem_mem _)
  simpa [isDig] using this
theorem take_snoc' (l : List UInt8) (k : Nat) (h : k < l.length) : l.take (k + 1) = l.take k ++ [l[k]] := by
  rw [List.take_succ_eq_append_getElem h]
theorem valF_take (s : ByteArray) (k : Nat) (h : k < s.size) {v : Nat} (hv : valF (s.data.toList.take k) 0 = some v) :
    valF (s.data.toList.take (k + 1)) 0 = if 10 * v + ((s[k]).toNat - 48) > 1099511627776 then none else some (10 * v + ((s[k]).toNat - 48)) := by
  rw [take_snoc' _ k (by simpa using h), valF_snoc, hv]
  rfl
theorem valF_none (s : ByteArray) (k : Nat) (h : valF (s.data.toList.take k) 0 = none) : valF s.data.toList 0 = none := by
  rw [← List.take_append_drop k s.data.toList, valF_append, h]
  rfl

def numberV (r : Option Nat) : Value := match r with
  | some v => .tuple #[.int .i64 v, .bool true]
  | none => .tuple #[.int .i64 0, .bool false]
set_option maxRecDepth 100000 in
theorem number_c (s : ByteArray) (w : World) (hs : s.size ≤ 140737488351232) (hd : ∀ b ∈ s.data.toList, isDig b = true) : Calls Tryd.prog 43 #[.string s] w fun e w' => e = .returned (numberV (valF s.data.toList 0)) ∧ w = w' := by
  have h1 := digit_at s hd
  clear hd
  go_enter Tryd.func43, Tryd.ntmps43
  go_wp2_with fail
  go_loop [4, 8] (fun n i => ∃ k v : Nat, k ≤ s.size ∧ i = .int .i64 k ∧ n = .int .i64 v ∧ v ≤ 1099511627776 ∧ Hid (valF (s.data.toList.take k) 0 = some v)) (fun _ i => s.size - (intOf i).toNat)
  case atStart => exact ⟨0, 0, by omega, rfl, rfl, by omega, hid rfl⟩
  case round =>
    obtain ⟨k, v, hk, rfl, rfl, hv, HV⟩ := hrel
    by_cases hlt : k < s.size
    · have hn := valF_take s k hlt HV.out
      obtain ⟨d1, d2⟩ := h1 k hlt
      by_cases hb : 10 * v + ((s[k]).toNat - 48) > 1099511627776
      · rw [if_pos hb] at hn
        have HN := hid (valF_none s (k + 1) hn)
        have hw : 1099511627776 < 10 * (v : Int) + (((s[k]).toNat : Int) - 48) := by omega
        have hw2 : 1099511627776 < 10 * (v : Int) + ((s[k]).toNat : Int) - 48 := by omega
        clear hn hb h1
        go_wp2_with fail
        go_ret2
        exact ⟨by rw [HN.out]; rfl, rfl⟩
      · rw [if_neg hb] at hn
        have HN := hid hn
        have hw : ¬ 1099511627776 < 10 * (v : Int) + (((s[k]).toNat : Int) - 48) := by omega
        have hw2 : ¬ 1099511627776 < 10 * (v : Int) + ((s[k]).toNat : Int) - 48 := by omega
        clear hn h1
        go_wp2_with fail
        go_round
        case rel => exact ⟨k + 1, 10 * v + ((s[k]).toNat - 48), by omega, by go_num, by congr 1; omega, by omega, HN⟩
        case measure => simp [intOf]; omega
    · obtain rfl : k = s.size := by omega
      have ht : s.data.toList.take s.size = s.data.toList := List.take_of_length_le (by simp)
      rw [ht] at HV
      clear ht h1
      go_wp2_with fail
      go_ret2
      exact ⟨by rw [HV.out]; rfl, rfl⟩

def valueV (r : Option Nat) : Value := match r with
  | some v => .int .i64 v
  | none => .int .i64 (-1)
set_option maxRecDepth 100000 in
theorem value_c (s : ByteArray) (w : World) (hs : s.size ≤ 140737488351232) (hd : ∀ b ∈ s.data.toList, isDig b = true) : Calls Tryd.prog 35 #[.string s] w fun e w' => e = .returned (valueV (valF s.data.toList 0)) ∧ w = w' := by
  have h1 := digit_at s hd
  clear hd
  go_enter Tryd.func35, Tryd.ntmps35
  go_wp2_with fail
  go_loop [3, 4] (fun n i => ∃ k v : Nat, k ≤ s.size ∧ i = .int .i64 k ∧ n = .int .i64 v ∧ v ≤ 1099511627776 ∧ Hid (valF (s.data.toList.take k) 0 = some v)) (fun _ i => s.size - (intOf i).toNat)
  case atStart => exact ⟨0, 0, by omega, rfl, rfl, by omega, hid rfl⟩
  case round =>
    obtain ⟨k, v, hk, rfl, rfl, hv, HV⟩ := hrel
    by_cases hlt : k < s.size
    · have hn := valF_take s k hlt HV.out
      obtain ⟨d1, d2⟩ := h1 k hlt
      by_cases hb : 10 * v + ((s[k]).toNat - 48) > 1099511627776
      · rw [if_pos hb] at hn
        have HN := hid (valF_none s (k + 1) hn)
        have hw : 1099511627776 < 10 * (v : Int) + (((s[k]).toNat : Int) - 48) := by omega
        have hw2 : 1099511627776 < 10 * (v : Int) + ((s[k]).toNat : Int) - 48 := by omega
        clear hn hb h1
        go_wp2_with fail
        go_ret
        exact ⟨by rw [HN.out]; rfl, rfl⟩
      · rw [if_neg hb] at hn
        have HN := hid hn
        have hw : ¬ 1099511627776 < 10 * (v : Int) + (((s[k]).toNat : Int) - 48) := by omega
        have hw2 : ¬ 1099511627776 < 10 * (v : Int) + ((s[k]).toNat : Int) - 48 := by omega
        clear hn h1
        go_wp2_with fail
        go_round
        case rel => exact ⟨k + 1, 10 * v + ((s[k]).toNat - 48), by omega, by go_num, by congr 1; omega, by omega, HN⟩
        case measure => simp [intOf]; omega
    · obtain rfl : k = s.size := by omega
      have ht : s.data.toList.take s.size = s.data.toList := List.take_of_length_le (by simp)
      rw [ht] at HV
      clear ht h1
      go_wp2_with fail
      go_ret
      exact ⟨by rw [HV.out]; rfl, rfl⟩
end Go.Proofs.YteilkcdbdpkbfaaDoor
