/- What model.Text and the reference's Text compute. -/
import Derived.Test.YtookcollmijjkaaMPlain
import Derived.Test.YtookcollmijjkaaInts
import Derived.Test.YtookcollmijjkaaVar
import Derived.Test.YtookcollmijjkaaRVar
namespace Go.Proofs.Ytookcollmijjkaa
open Go.RowKit
set_option linter.unusedVariables false
set_option linter.unusedSimpArgs false
theorem bytes_addM (a b : List UInt8) : (⟨a.toArray⟩ : ByteArray) ++ ⟨b.toArray⟩ = ⟨(a ++ b).toArray⟩ := by
  apply ByteArray.ext
  simp [ByteArray.data_append]
theorem bytes_sizeM (a : List UInt8) : (⟨a.toArray⟩ : ByteArray).size = a.length := by simp [ByteArray.size]
set_option maxRecDepth 100000 in
set_option maxHeartbeats 2000000 in
theorem Text_c (xs : List Int) (v : Value) (w : World) (hv : Ints w v xs) (hf : ∀ n ∈ xs, -9223372036854775808 ≤ n ∧ n ≤ 9223372036854775807) :
    Calls Try.prog 20 #[v] w fun e w' => e = .returned (.string ⟨(textL xs).toArray⟩) ∧ Grow w w' := by
  have HI := hid hv
  obtain ⟨p, cap, rfl, hl, hc, hcap⟩ := hv
  have HC := hid (show ∀ k (h : k < xs.length), ∃ b off, p = some ⟨b, off, none⟩ ∧ w.cell? ⟨b, off + k, none⟩ = some (.int .i64 xs[k]) from fun k hk => by
    obtain ⟨b, off, e, H⟩ := hc (by omega)
    have := H k hk
    simp only [List.getD, List.getElem?_eq_getElem hk, Option.getD_some] at this
    exact ⟨b, off, e, this⟩)
  have HF := hid hf
  have HW := hid (fun n (w : World) h => Var_c n w h)
  have HD := hid (fun n (w : World) h1 h2 => Fold_c n w h1 h2)
  have hW0 := HW.out xs.length
  have hw0 : IntKind.u64.wrap (xs.length : Int) = (xs.length : Int) := by rw [IntKind.wrap_u64]; omega
  have hz0 := varL_length xs.length
  have HW0 := hid hW0
  have hS0 := hid (show (⟨(varL xs.length).toArray⟩ : ByteArray) = ⟨(varL xs.length ++ numsL (xs.take 0)).toArray⟩ by simp [numsL])
  clear hc hf hW0
  go_enter Try.func20, Try.ntmps20
  go_wp2_with fail
  refine (HW0.out _ (by omega)).mono ?_
  rintro e w1 ⟨rfl, b1⟩
  go_wp2_with fail
  go_loopw [3, 12] (fun s i wr => ∃ (k : Nat) (S : ByteArray), k ≤ xs.length ∧ i = .int .i64 (k : Int) ∧ s = .string S ∧ Hid (S = ⟨(varL xs.length ++ numsL (xs.take k)).toArray⟩) ∧ Grow w wr) (fun _ i _ => xs.length - (intOf i).toNat)
  case atStart => exact ⟨0, _, by omega, rfl, rfl, hS0, b1⟩
  case round =>
    obtain ⟨k, S, hk, rfl, rfl, HS, hg⟩ := hrel
    have hnl := numsL_length (xs.take k)
    rw [List.length_take, Nat.min_eq_left hk] at hnl
    have hSz : S.size ≤ 10 + 10 * k := by rw [HS.out, bytes_sizeM, List.length_append]; omega
    by_cases hlt : k < xs.length
    · obtain ⟨b, off, rfl, hc0⟩ := HC.out k hlt
      replace hc0 := hg.cell hc0
      have hfk := HF.out xs[k] (List.getElem_mem hlt)
      have HT := hid (numsL_take xs k hlt)
      have hk1 : (k : Int) < (xs.length : Int) := by omega
      have hk0 : (0 : Int) ≤ (k : Int) := by omega
      generalize xs[k] = n at *
      obtain ⟨f1, f2⟩ := foldV_bd n hfk.1 hfk.2
      have hD := hid (fun w => HD.out n w hfk.1 hfk.2)
      have hV := HW.out (foldV n).toNat
      rw [show (((foldV n).toNat : Nat) : Int) = foldV n by omega] at hV
      have hvl := varL_length (foldV n).toNat
      have HX := hid (show S ++ (⟨(varL (foldV n).toNat).toArray⟩ : ByteArray) = ⟨(varL xs.length ++ numsL (xs.take (k + 1))).toArray⟩ by rw [HS.out, bytes_addM, HT.out, List.append_assoc])
      have hzv : (⟨(varL (foldV n).toNat).toArray⟩ : ByteArray).size ≤ 10 := by rw [bytes_sizeM]; exact hvl
      have hlt64 : (foldV n).toNat < 18446744073709551616 := by omega
      replace hV := hid (fun w => hV w hlt64)
      generalize (⟨(varL (foldV n).toNat).toArray⟩ : ByteArray) = Z at *
      generalize foldV n = Y at *
      have hq : ¬ 9223372036854775807 < S.size + Z.size := by omega
      go_wp2_with fail
      refine (hD.out _).mono ?_
      rintro e w2 ⟨rfl, rfl⟩
      go_wp2_with fail
      refine (hV.out _).mono ?_
      rintro e w3 ⟨rfl, b3⟩
      go_wp2_with fail
      go_roundw
      case rel => exact ⟨k + 1, _, by omega, by go_num, rfl, HX, Grow.trans hg b3⟩
      case measure => simp [intOf]; omega
    · obtain rfl : k = xs.length := by omega
      go_wp2_with fail
      go_ret
      refine ⟨?_, hg⟩
      show Ending.returned (.string S) = _
      rw [HS.out, List.take_length]
      rfl
set_option maxRecDepth 100000 in
set_option maxHeartbeats 2000000 in
theorem RText_c (xs : List Int) (v : Value) (w : World) (hv : Ints w v xs) (hf : ∀ n ∈ xs, -9223372036854775808 ≤ n ∧ n ≤ 9223372036854775807) :
    Calls Try.prog 21 #[v] w fun e w' => e = .returned (.string ⟨(textL xs).toArray⟩) ∧ Grow w w' := by
  have HI := hid hv
  obtain ⟨p, cap, rfl, hl, hc, hcap⟩ := hv
  have HC := hid (show ∀ k (h : k < xs.length), ∃ b off, p = some ⟨b, off, none⟩ ∧ w.cell? ⟨b, off + k, none⟩ = some (.int .i64 xs[k]) from fun k hk => by
    obtain ⟨b, off, e, H⟩ := hc (by omega)
    have := H k hk
    simp only [List.getD, List.getElem?_eq_getElem hk, Option.getD_some] at this
    exact ⟨b, off, e, this⟩)
  have HF := hid hf
  have HW := hid (fun n (w : World) h => RVar_c n w h)
  have HD := hid (fun n (w : World) h1 h2 => RFold_c n w h1 h2)
  have hW0 := HW.out xs.length
  have hw0 : IntKind.u64.wrap (xs.length : Int) = (xs.length : Int) := by rw [IntKind.wrap_u64]; omega
  have hz0 := varL_length xs.length
  have HW0 := hid hW0
  have hS0 := hid (show (⟨(varL xs.length).toArray⟩ : ByteArray) = ⟨(varL xs.length ++ numsL (xs.take 0)).toArray⟩ by simp [numsL])
  clear hc hf hW0
  go_enter Try.func21, Try.ntmps21
  go_wp2_with fail
  refine (HW0.out _ (by omega)).mono ?_
  rintro e w1 ⟨rfl, b1⟩
  go_wp2_with fail
  go_loopw [3, 4] (fun s i wr => ∃ (k : Nat) (S : ByteArray), k ≤ xs.length ∧ i = .int .i64 (k : Int) ∧ s = .string S ∧ Hid (S = ⟨(varL xs.length ++ numsL (xs.take k)).toArray⟩) ∧ Grow w wr) (fun _ i _ => xs.length - (intOf i).toNat)
  case atStart => exact ⟨0, _, by omega, rfl, rfl, hS0, b1⟩
  case round =>
    obtain ⟨k, S, hk, rfl, rfl, HS, hg⟩ := hrel
    have hnl := numsL_length (xs.take k)
    rw [List.length_take, Nat.min_eq_left hk] at hnl
    have hSz : S.size ≤ 10 + 10 * k := by rw [HS.out, bytes_sizeM, List.length_append]; omega
    by_cases hlt : k < xs.length
    · obtain ⟨b, off, rfl, hc0⟩ := HC.out k hlt
      replace hc0 := hg.cell hc0
      have hfk := HF.out xs[k] (List.getElem_mem hlt)
      have HT := hid (numsL_take xs k hlt)
      have hk1 : (k : Int) < (xs.length : Int) := by omega
      have hk0 : (0 : Int) ≤ (k : Int) := by omega
      generalize xs[k] = n at *
      obtain ⟨f1, f2⟩ := foldV_bd n hfk.1 hfk.2
      have hD := hid (fun w => HD.out n w hfk.1 hfk.2)
      have hV := HW.out (foldV n).toNat
      rw [show (((foldV n).toNat : Nat) : Int) = foldV n by omega] at hV
      have hvl := varL_length (foldV n).toNat
      have HX := hid (show S ++ (⟨(varL (foldV n).toNat).toArray⟩ : ByteArray) = ⟨(varL xs.length ++ numsL (xs.take (k + 1))).toArray⟩ by rw [HS.out, bytes_addM, HT.out, List.append_assoc])
      have hzv : (⟨(varL (foldV n).toNat).toArray⟩ : ByteArray).size ≤ 10 := by rw [bytes_sizeM]; exact hvl
      have hlt64 : (foldV n).toNat < 18446744073709551616 := by omega
      replace hV := hid (fun w => hV w hlt64)
      generalize (⟨(varL (foldV n).toNat).toArray⟩ : ByteArray) = Z at *
      generalize foldV n = Y at *
      have hq : ¬ 9223372036854775807 < S.size + Z.size := by omega
      go_wp2_with fail
      refine (hD.out _).mono ?_
      rintro e w2 ⟨rfl, rfl⟩
      go_wp2_with fail
      refine (hV.out _).mono ?_
      rintro e w3 ⟨rfl, b3⟩
      go_wp2_with fail
      go_roundw
      case rel => exact ⟨k + 1, _, by omega, by go_num, rfl, HX, Grow.trans hg b3⟩
      case measure => simp [intOf]; omega
    · obtain rfl : k = xs.length := by omega
      go_wp2_with fail
      go_ret
      refine ⟨?_, hg⟩
      show Ending.returned (.string S) = _
      rw [HS.out, List.take_length]
      rfl
end Go.Proofs.Ytookcollmijjkaa
