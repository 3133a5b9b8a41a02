/- Every number that may be is read as it is written, and one with so many more digits is too great. -/
import Derived.Test.YthijancigoedgaaLexAwake
import Derived.Test.YthijancigoedgaaLexMore
namespace Go.Proofs.Ythijancigoedgaa
open Go.RowKit
set_option linter.unusedVariables false
set_option linter.unusedSimpArgs false

theorem bytes_addN (a b : List UInt8) : (⟨a.toArray⟩ : ByteArray) ++ ⟨b.toArray⟩ = ⟨(a ++ b).toArray⟩ := by
  apply ByteArray.ext
  simp [ByteArray.data_append]
theorem bytes_sizeN (a : List UInt8) : (⟨a.toArray⟩ : ByteArray).size = a.length := by simp [ByteArray.size]
theorem empty_iff (S : List UInt8) : ((⟨S.toArray⟩ : ByteArray).toList.isEmpty) = S.isEmpty := by rw [ByteArray.toList_eq]
theorem pow_small {k m N : Nat} (hk : 0 < k) (h : k * 10 ^ m ≤ N) (hN : N ≤ 1099511627776) : m ≤ 12 := by
  rcases Nat.lt_or_ge m 13 with h1 | h1
  · omega
  · have h2 : 10 ^ 13 ≤ 10 ^ m := Nat.pow_le_pow_right (by omega) h1
    have h3 : 10 ^ m ≤ k * 10 ^ m := Nat.le_mul_of_pos_left _ hk
    omega
theorem dec_step {k : Nat} {S : List UInt8} {N : Nat} (h : N = k * 10 ^ S.length + decV S) : N = (k / 10) * 10 ^ (UInt8.ofNat (48 + k % 10) :: S).length + decV (UInt8.ofNat (48 + k % 10) :: S) := by
  have hd : (UInt8.ofNat (48 + k % 10)).toNat - 48 = k % 10 := by simp; omega
  rw [decV_cons, hd, List.length_cons, Nat.pow_succ, h]
  have : k / 10 * (10 ^ S.length * 10) = (k / 10 * 10) * 10 ^ S.length := by rw [Nat.mul_comm (10 ^ S.length) 10, Nat.mul_assoc]
  have h2 : k * 10 ^ S.length = (k / 10 * 10) * 10 ^ S.length + k % 10 * 10 ^ S.length := by rw [← Nat.add_mul]; congr 1; omega
  omega
set_option maxRecDepth 100000 in
set_option maxHeartbeats 2000000 in
theorem Numbers_w (n : Nat) (m : Bool) (w : World) (hn : n < 18446744073709551616) :
    Calls Try.prog 7 #[.int .u64 n, .bool m] w fun e w' => e = .returned (.bool true) ∧ Below w.heap.size w w' := by
  have hc1 := conv_one (P := Try.prog) Try.underlying33 Try.underlying5 Try.underlying9
  obtain ⟨N, hNe, hN⟩ : ∃ N : Nat, (n : Int) % 1099511627777 = (N : Int) ∧ N ≤ 1099511627776 := ⟨n % 1099511627777, by omega, by omega⟩
  have HNe := hid hNe
  clear hNe
  have HC := hid (fun s w hs => Scan_any s w hs)
  go_enter Try.func7, Try.ntmps7
  go_wp2_with fail
  rw [HNe.out]
  go_loopw [5, 6] (fun s k wr => ∃ (S : List UInt8) (T : ByteArray) (K : Nat), s = .string T ∧ k = .int .u64 (K : Int) ∧ Hid (T = ⟨S.toArray⟩) ∧ S.length ≤ 13 ∧ Hid (∀ b ∈ S, isDig b = true) ∧ Hid (N = K * 10 ^ S.length + decV S) ∧ K ≤ 1099511627776 ∧ Grow w wr) (fun s k _ => (intOf k).toNat + (match s with | .string T => if T.size = 0 then 1 else 0 | _ => 0))
  case atStart => exact ⟨[], _, N, rfl, rfl, hid rfl, by simp, hid (fun b hb => by cases hb), hid (by simp [decV]), by omega, Grow.refl _⟩
  case round =>
    obtain ⟨S, T, K, rfl, rfl, HT, hS, HD, HN, hK, hg⟩ := hrel
    have hTs : T.size = S.length := by rw [HT.out, bytes_sizeN]
    have hsz := hg.size
    by_cases hgo : 0 < K ∨ S = []
    · have h12 : S.length ≤ 12 := by
        rcases hgo with h | h
        · exact pow_small h (by have := HN.out; omega) hN
        · rw [h]; simp
      have HN2 := hid (dec_step HN.out)
      have HD2 := hid (show ∀ b ∈ UInt8.ofNat (48 + K % 10) :: S, isDig b = true from fun b hb => by
        rcases List.mem_cons.1 hb with rfl | hb
        · simp [isDig]; omega
        · exact HD.out b hb)
      have HT2 := hid (show (⟨[UInt8.ofNat (48 + K % 10)].toArray⟩ : ByteArray) ++ T = ⟨(UInt8.ofNat (48 + K % 10) :: S).toArray⟩ by rw [HT.out, bytes_addN]; rfl)
      have hx := hid (show (48 + (K : Int) % 10).toNat = 48 + K % 10 by omega)
      have hw8 := hid (show IntKind.u8.wrap (48 + (K : Int) % 10) = 48 + (K : Int) % 10 by rw [IntKind.wrap_u8']; omega)
      have hsum : ¬ 9223372036854775807 < 1 + T.size := by omega
      have hm1 : (K / 10) + 0 < K + (if T.size = 0 then 1 else 0) := by
        rcases hgo with h | h
        · split <;> omega
        · rw [h] at hTs; rw [if_pos (by simpa using hTs)]; omega
      have hm2 : ((⟨(UInt8.ofNat (48 + K % 10) :: S).toArray⟩ : ByteArray)).size = S.length + 1 := by rw [bytes_sizeN]; rfl
      by_cases hK0 : 0 < K
      · have ht : decide ((0 : Int) < (K : Int)) = true := by simp; omega
        go_wp2_with fail
        go_roundw
        case rel => exact ⟨UInt8.ofNat (48 + K % 10) :: S, _, K / 10, rfl, by go_num, by first | exact HT2 | (refine hid ?_; rw [← HT2.out, ← hx.out]; rfl) | (refine hid ?_; rw [← HT2.out]; rfl) | (refine hid ?_; rw [← HT2.out, UInt8.ofNat_add]; rfl), by rw [List.length_cons]; omega, HD2, HN2, by omega, Grow.trans hg (Grow.alloc _ _)⟩
        case measure => simp only [intOf]; trivial
      · have hS0 : S = [] := by rcases hgo with h | h; exact absurd h hK0; exact h
        have ht : T.toList.isEmpty = true := by rw [HT.out, empty_iff, hS0]; rfl
        have ht2 : T.toList = [] := by simpa using ht
        have hK00 : K = 0 := by omega
        subst hK00
        clear hgo hK0 hS0
        go_wp2_with fail
        go_roundw
        case rel => exact ⟨UInt8.ofNat (48 + 0 % 10) :: S, _, 0 / 10, rfl, by go_num, by first | exact HT2 | (refine hid ?_; rw [← HT2.out, ← hx.out]; rfl) | (refine hid ?_; rw [← HT2.out]; rfl) | (refine hid ?_; rw [← HT2.out, UInt8.ofNat_add]; rfl), by rw [List.length_cons]; omega, HD2, HN2, by omega, Grow.trans hg (Grow.alloc _ _)⟩
        case measure => simp only [intOf]; trivial
    · have hK0 : K = 0 := by omega
      have hS0 : S ≠ [] := fun h => hgo (.inr h)
      subst hK0
      clear hgo
      have hV : N = decV S := by have := HN.out; simpa using this
      have ht : T.toList.isEmpty = false := by
        rw [HT.out, empty_iff]
        cases S with
        | nil => exact absurd rfl hS0
        | cons b l => rfl
      have hsum : ¬ 9223372036854775807 < 1 + T.size := by omega
      have hs1 : (signed m S).length ≤ 14 := by unfold signed; split <;> (try simp only [List.length_cons]) <;> omega
      have q1 := scanL_num m HD.out hS0 (by omega)
      have q2 := scanL_big m HD.out
      rw [← hV] at q1
      have c1 := fun w => HC.out ⟨(signed m S).toArray⟩ w (by rw [bytes_sizeN]; omega)
      have c2 := fun w => HC.out ⟨(120 :: 32 :: (signed m S ++ nines)).toArray⟩ w (by rw [bytes_sizeN]; simp only [List.length_cons, List.length_append, nines, List.length_nil]; omega)
      have e1 : scan (signed m S) = ⟨[⟨2, signed m S, sgn m N, 0⟩], (signed m S).length, 0⟩ := by unfold scan; rw [if_neg (by omega)]; exact q1
      have e2 : scan (120 :: 32 :: (signed m S ++ nines)) = ⟨[], 2, 2⟩ := by unfold scan; rw [if_neg (by simp only [List.length_cons, List.length_append, nines, List.length_nil]; omega)]; exact q2
      simp only at c1 c2
      rw [e1] at c1
      rw [e2] at c2
      have ej : (⟨#[120, 32]⟩ : ByteArray) ++ (⟨(signed m S).toArray⟩ : ByteArray) ++ (⟨#[57, 57, 57, 57, 57, 57, 57, 57, 57, 57, 57, 57, 57, 57]⟩ : ByteArray) = ⟨(120 :: 32 :: (signed m S ++ nines)).toArray⟩ := by
        rw [show (⟨#[120, 32]⟩ : ByteArray) = ⟨[120, 32].toArray⟩ from rfl, show (⟨#[57, 57, 57, 57, 57, 57, 57, 57, 57, 57, 57, 57, 57, 57]⟩ : ByteArray) = ⟨nines.toArray⟩ from rfl, bytes_addN, bytes_addN]
        simp
      rw [← ej] at c2
      have C1 := hid c1
      have C2 := hid c2
      have hUs : (⟨(signed m S).toArray⟩ : ByteArray).size ≤ 14 := by rw [bytes_sizeN]; exact hs1
      have hs2 : ((⟨#[120, 32]⟩ : ByteArray) ++ (⟨(signed m S).toArray⟩ : ByteArray)).size = 2 + (⟨(signed m S).toArray⟩ : ByteArray).size := by rw [ByteArray.size_append']; rfl
      clear c1 c2 e1 e2 q1 q2 hs1 HN hV ej hS0
      cases m
      · have hU : (⟨(signed false S).toArray⟩ : ByteArray) = T := by rw [HT.out]; rfl
        simp only [hU, sgn, Bool.false_eq_true, if_false] at C1 C2 hUs hs2
        clear hU HT HD
        have hsum2 : ¬ 9223372036854775807 < 2 + T.size := by omega
        have hsum3 : ¬ 9223372036854775807 < 2 + T.size + 14 := by omega
        go_wp2_with fail
        refine (C1.out _).mono ?_
        rintro e w1 ⟨v1, rfl, ⟨p1, k1, rfl, hn1, ht1⟩, g1⟩
        go_wp2_with fail
        refine (C2.out _).mono ?_
        rintro e w2 ⟨v2, rfl, ⟨p2, k2, rfl, hn2, ht2⟩, g2⟩
        obtain ⟨b, rfl, HB⟩ := ht1 (by simp)
        have a0 := g2.cell (HB 0 (by simp)).1
        have a2 := g2.cell (HB 0 (by simp)).2.2.1
        simp only [List.getElem_cons_zero, Nat.zero_mul, Nat.zero_add] at a0 a2
        clear ht2 HB ht1 hn1 hn2
        go_wp2_with fail
        refine (awake_c _).mono ?_
        rintro e w5 ⟨rfl, b5⟩
        go_wp2_with fail
        go_ret
        exact ⟨rfl, Grow.trans hg (Grow.trans g1 (Grow.trans g2 b5))⟩
      · have hU : (⟨(signed true S).toArray⟩ : ByteArray) = (⟨#[45]⟩ : ByteArray) ++ T := by rw [HT.out, show (⟨#[45]⟩ : ByteArray) = ⟨[45].toArray⟩ from rfl, bytes_addN]; rfl
        simp only [hU, sgn, if_true] at C1 C2 hUs hs2
        clear hU HT HD
        have hU2 : ((⟨#[45]⟩ : ByteArray) ++ T).size = 1 + T.size := by rw [ByteArray.size_append']; rfl
        rw [hU2] at hUs hs2
        have hsum2 : ¬ 9223372036854775807 < 2 + (1 + T.size) := by omega
        have hsum3 : ¬ 9223372036854775807 < 2 + (1 + T.size) + 14 := by omega
        go_wp2_with fail
        refine (C1.out _).mono ?_
        rintro e w1 ⟨v1, rfl, ⟨p1, k1, rfl, hn1, ht1⟩, g1⟩
        go_wp2_with fail
        refine (C2.out _).mono ?_
        rintro e w2 ⟨v2, rfl, ⟨p2, k2, rfl, hn2, ht2⟩, g2⟩
        obtain ⟨b, rfl, HB⟩ := ht1 (by simp)
        have a0 := g2.cell (HB 0 (by simp)).1
        have a2 := g2.cell (HB 0 (by simp)).2.2.1
        simp only [List.getElem_cons_zero, Nat.zero_mul, Nat.zero_add] at a0 a2
        clear ht2 HB ht1 hn1 hn2
        go_wp2_with fail
        refine (awake_c _).mono ?_
        rintro e w5 ⟨rfl, b5⟩
        go_wp2_with fail
        go_ret
        exact ⟨rfl, Grow.trans hg (Grow.trans g1 (Grow.trans g2 b5))⟩
theorem Numbers_walk (a : Int) (m : Bool) (w : World) (h0 : 0 ≤ a) (h1 : a ≤ 18446744073709551615) :
    Calls Try.prog 7 #[.int .u64 a, .bool m] w fun e w' => e = .returned (.bool true) ∧ Below w.heap.size w w' := by
  obtain ⟨n, rfl⟩ : ∃ n : Nat, a = n := ⟨a.toNat, by omega⟩
  exact Numbers_w n m w (by omega)
namespace LawLexNumbers
open Go.ChangeShapes Go.WideShapes Go.ChangeAt Go.RowKit
open Go.ChangeMaps (open_string shut_string)
theorem own : ownKnob Try.prog.godebug = none := by kernel_rfl
theorem laidOut : laidOutB Try.prog = true := by kernel_rfl
set_option maxRecDepth 100000 in
theorem lifted (os : Os) (started : os.Started) (H : Type) (enc : TypeId × Value → H) :
    ReturnsInHanded {} Try.checked os 7 .any (Rows.lexNumbersSpec.pre6 enc Try.prog Try.f7 Rows.lexNumbersRow.domain false) (Rows.lexNumbersSpec.post enc Try.prog Try.f7 false true false false) := by
  refine returnsInHanded_of_change_sized (C := Try.checked) own started (by kernel_rfl) Try.func7
    (ChangeSpec.witness6 (enc := enc) (C := Try.checked) false ⟨#[], #[.int .u64 0, .bool false], []⟩ 8 (by kernel_rfl) (by kernel_rfl) (by kernel_rfl) (by kernel_rfl)) ?_
  intro W base args ds gs before hval0 hW hcnd hsz _
  have hval : ∀ (j : Nat) t v, Try.f7.params[j]? = some t → args[j]? = some v → Value.okWide Try.prog W .any base t v := hval0
  have hW' := hW
  obtain ⟨p, q, hA0, hV, rfl, hfz, hnd⟩ := hW
  have hA : DataW.TrodAll enc Try.prog W 0 (fun _ => true) true Try.f7.params.toList args.toList ds p := hA0
  rw [Try.params7] at hA hval hsz
  obtain ⟨v0, vs0, d0, ds0, p0, q0, hargs, rfl, rfl, h0, r0⟩ := trodAll_cons hA
  obtain ⟨v1, vs1, d1, ds1, p1, q1, rfl, rfl, rfl, h1, r1⟩ := trodAll_cons r0
  obtain ⟨rfl, rfl, rfl⟩ := trodAll_nil r1
  obtain rfl : args = #[v0, v1] := by cases args; simp_all
  obtain ⟨rfl, rfl⟩ := trodVars_none hV
  obtain ⟨a0, rfl, rfl, rfl, w0⟩ := open_int Try.underlying37 (hval 0 37 v0 rfl rfl) h0
  have b0 := wf_u64 w0
  obtain ⟨a1, rfl, rfl, rfl⟩ := open_bool Try.underlying4 (hval 1 4 v1 rfl rfl) h1
  clear hA0 hval0
  refine (Numbers_walk a0 a1 W b0.1 b0.2 ).mono fun e W' ⟨he, bel⟩ => ?_
  subst he
  exact ⟨_, rfl, _, _, _, [], _, [], hW', trodAll_mk1 (shut_bool Try.underlying4 _), (trodAll_cons_mk (shut_int Try.underlying37 w0) (trodAll_cons_mk (shut_bool Try.underlying4 _) trodAll_mk0)), rfl, bel.frame _, fun h => by cases h⟩
theorem over : Rows.lexNumbersRow.holds Try.pinned (OpenSpec.ofChange Rows.lexNumbersSpec) :=
  OpenClaim.holds_of_wide 7 Try.f7 rfl rfl rfl rfl rfl rfl rfl ⟨rfl, rfl, rfl, rfl, rfl⟩ rfl rfl rfl rfl rfl (by kernel_rfl) Try.func7 (by kernel_rfl)
    (of_decide_eq_true (by kernel_rfl)) (by unfold Func.isWrapper; first | (rw [if_pos (by decide +kernel)]; kernel_rfl) | (rw [if_neg (by decide +kernel)]; exact ⟨rfl, rfl⟩))
    (fun os started H enc _ => lifted os started H enc)
end LawLexNumbers
/-- The given statement. -/
theorem lexNumbers_proved : Rows.LexNumbersSaid := LawLexNumbers.over
#print axioms lexNumbers_proved
end Go.Proofs.Ythijancigoedgaa
