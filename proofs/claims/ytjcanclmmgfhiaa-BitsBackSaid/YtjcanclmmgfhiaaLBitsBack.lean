/- What is written is read as it was, whatever stands behind it. -/
import Derived.Test.YtjcanclmmgfhiaaBitsAwake
import Derived.Test.YtjcanclmmgfhiaaUnvar
import Derived.Test.YtjcanclmmgfhiaaUnfixed
namespace Go.Proofs.Ytjcanclmmgfhiaa
open Go.RowKit
set_option linter.unusedVariables false

theorem mod_u64 (n : Nat) (h : n < 18446744073709551616) : n % 256 ^ 8 = n := Nat.mod_eq_of_lt h
set_option maxHeartbeats 400000 in
theorem Back_w (n : Nat) (rest : ByteArray) (m : Int) (w : World) (hn : n < 18446744073709551616) (hr : rest.size ≤ 140737488351232) (l2 : -9223372036854775808 ≤ m) (u2 : m ≤ 9223372036854775807) :
    Calls Try.prog 10 #[.int .u64 n, .string rest, .int .i64 m] w fun e w' => e = .returned (.bool true) ∧ Below w.heap.size w w' := by
  have hL := varL_length n
  have hsz : (ByteArray.mk (varL n).toArray ++ rest).size ≤ maxLen := by
    have e : (ByteArray.mk (varL n).toArray).size = (varL n).length := by rw [← ByteArray.size_data]; simp
    rw [ByteArray.size_append', e]
    unfold maxLen
    omega
  have c1 := hid (fun w => Var_c n w hn)
  have c2 := hid (fun w => Unvar_c (ByteArray.mk (varL n).toArray ++ rest) w hsz)
  have c3 := hid (fun w => Ordered_c m w l2 u2)
  have c4 := hid (fun w => Unordered_c (ByteArray.mk (ordL m).toArray) w (by rw [← ByteArray.size_data]; simp [ordL_length]))
  have c5 := hid (fun w => Fixed_c n 8 w hn (by omega) (by omega))
  have c6 := hid (fun w => Unfixed_c (ByteArray.mk (leB 8 n).toArray) w (by rw [← ByteArray.size_data]; simp [leB_length, maxLen]))
  have c7 := hid (fun w => Fixed_c n 4 w hn (by omega) (by omega))
  have c8 := hid (fun w => Unfixed_c (ByteArray.mk (leB 4 n).toArray) w (by rw [← ByteArray.size_data]; simp [leB_length, maxLen]))
  have e2 : unvarP (ByteArray.mk (varL n).toArray ++ rest).data.toList = (n, (varL n).length) := by
    have e : (ByteArray.mk (varL n).toArray ++ rest).data.toList = varL n ++ rest.data.toList := by simp [ByteArray.data_append]
    rw [e, unvarP_varL n hn]
  have t8 : (leB 8 n).take 8 = leB 8 n := List.take_of_length_le (by rw [leB_length]; omega)
  have t4 : (leB 4 n).take 8 = leB 4 n := List.take_of_length_le (by rw [leB_length]; omega)
  have m8 : min (8 : Int).toNat 8 = 8 := by decide
  have m4 : min (4 : Int).toNat 8 = 4 := by decide
  have v8 : leV (leB 8 n) = n := by rw [leV_leB, mod_u64 n hn]
  have v4 : leV (leB 4 n) = n % 4294967296 := by rw [leV_leB]
  rw [e2] at c2
  rw [show (ByteArray.mk (ordL m).toArray).data.toList = ordL m from rfl, unordV_ordL m l2 u2] at c4
  rw [m8] at c5
  rw [show (ByteArray.mk (leB 8 n).toArray).data.toList = leB 8 n from rfl, t8, v8] at c6
  rw [m4] at c7
  rw [show (ByteArray.mk (leB 4 n).toArray).data.toList = leB 4 n from rfl, t4, v4] at c8
  clear e2 t8 t4 m8 m4 v8 v4
  generalize varL n = V at *
  generalize ordL m = O at *
  generalize leB 8 n = F8 at *
  generalize leB 4 n = F4 at *
  go_enter Try.func10, Try.ntmps10
  go_wp2_with fail
  refine (c1.out _).mono ?_
  rintro e w1 ⟨rfl, b1⟩
  go_wp2_with fail
  refine (c2.out _).mono ?_
  rintro e w2 ⟨rfl, rfl⟩
  go_wp2_with fail
  refine (c3.out _).mono ?_
  rintro e w3 ⟨rfl, b3⟩
  go_wp2_with fail
  refine (c4.out _).mono ?_
  rintro e w4 ⟨rfl, rfl⟩
  go_wp2_with fail
  refine (c1.out _).mono ?_
  rintro e w5 ⟨rfl, b5⟩
  go_wp2_with fail
  refine (c5.out _).mono ?_
  rintro e w6 ⟨rfl, b6⟩
  go_wp2_with fail
  refine (c6.out _).mono ?_
  rintro e w7 ⟨rfl, rfl⟩
  go_wp2_with fail
  refine (c7.out _).mono ?_
  rintro e w8 ⟨rfl, b8⟩
  go_wp2_with fail
  refine (c8.out _).mono ?_
  rintro e w9 ⟨rfl, rfl⟩
  go_wp2_with fail
  refine (awake_c _).mono ?_
  rintro e w10 ⟨rfl, b10⟩
  go_wp2_with fail
  go_ret
  exact ⟨rfl, Grow.trans b1 (Grow.trans b3 (Grow.trans b5 (Grow.trans b6 (Grow.trans b8 b10))))⟩
theorem Back_walk (a0 : Int) (a1 : ByteArray) (a2 : Int) (w : World) (l0 : 0 ≤ a0) (u0 : a0 ≤ 18446744073709551615) (l1 : a1.size ≤ 140737488351232) (l2 : -9223372036854775808 ≤ a2) (u2 : a2 ≤ 9223372036854775807) :
    Calls Try.prog 10 #[.int .u64 a0, .string a1, .int .i64 a2] w fun e w' => e = .returned (.bool true) ∧ Below w.heap.size w w' := by
  obtain ⟨n, rfl⟩ := Int.eq_ofNat_of_zero_le l0
  exact Back_w n a1 a2 w (by omega) l1 l2 u2
namespace LawBitsBack
open Go.ChangeShapes Go.WideShapes Go.ChangeAt Go.RowKit
open Go.ChangeMaps (open_string shut_string)
theorem own : ownKnob Try.prog.godebug = none := by kernel_rfl
theorem laidOut : laidOutB Try.prog = true := by kernel_rfl
set_option maxRecDepth 100000 in
theorem lifted (os : Os) (started : os.Started) (H : Type) (enc : TypeId × Value → H) :
    ReturnsInHanded {} Try.checked os 10 .any (Rows.bitsBackSpec.pre6 enc Try.prog Try.f10 Rows.bitsBackRow.domain false) (Rows.bitsBackSpec.post enc Try.prog Try.f10 false true false false) := by
  refine returnsInHanded_of_change_sized (C := Try.checked) own started (by kernel_rfl) Try.func10
    (ChangeSpec.witness6 (enc := enc) (C := Try.checked) false ⟨#[], #[.int .u64 0, .string ByteArray.empty, .int .i64 0], []⟩ 8 (by kernel_rfl) (by kernel_rfl) (by kernel_rfl) (by kernel_rfl)) ?_
  intro W base args ds gs before hval0 hW hcnd hsz _
  have hval : ∀ (j : Nat) t v, Try.f10.params[j]? = some t → args[j]? = some v → Value.okWide Try.prog W .any base t v := hval0
  have hW' := hW
  obtain ⟨p, q, hA0, hV, rfl, hfz, hnd⟩ := hW
  have hA : DataW.TrodAll enc Try.prog W 0 (fun _ => true) true Try.f10.params.toList args.toList ds p := hA0
  rw [Try.params10] at hA hval hsz
  obtain ⟨v0, vs0, d0, ds0, p0, q0, hargs, rfl, rfl, h0, r0⟩ := trodAll_cons hA
  obtain ⟨v1, vs1, d1, ds1, p1, q1, rfl, rfl, rfl, h1, r1⟩ := trodAll_cons r0
  obtain ⟨v2, vs2, d2, ds2, p2, q2, rfl, rfl, rfl, h2, r2⟩ := trodAll_cons r1
  obtain ⟨rfl, rfl, rfl⟩ := trodAll_nil r2
  obtain rfl : args = #[v0, v1, v2] := by cases args; simp_all
  obtain ⟨rfl, rfl⟩ := trodVars_none hV
  obtain ⟨a0, rfl, rfl, rfl, w0⟩ := open_int Try.underlying30 (hval 0 30 v0 rfl rfl) h0
  have b0 := wf_u64 w0
  obtain ⟨a1, rfl, rfl, rfl, w1⟩ := open_string Try.underlying9 (hval 1 9 v1 rfl rfl) h1
  have z1 : a1.size ≤ 140737488351232 := by
    have h := sized_string hsz (j := 1) (t := 9) (bytes := a1.data.toList) rfl rfl
    simpa [reachBytes] using h
  obtain ⟨a2, rfl, rfl, rfl, w2⟩ := open_int Try.underlying3 (hval 2 3 v2 rfl rfl) h2
  have b2 := wf_i64 w2
  clear hA0 hval0
  refine (Back_walk a0 a1 a2 W b0.1 b0.2 z1 b2.1 b2.2).mono fun e W' ⟨he, bel⟩ => ?_
  subst he
  exact ⟨_, rfl, _, _, _, [], _, [], hW', trodAll_mk1 (shut_bool Try.underlying4 _), (trodAll_cons_mk (shut_int Try.underlying30 w0) (trodAll_cons_mk (shut_string Try.underlying9 w1) (trodAll_cons_mk (shut_int Try.underlying3 w2) trodAll_mk0))), rfl, bel.frame _, fun h => by cases h⟩
theorem over : Rows.bitsBackRow.holds Try.pinned (OpenSpec.ofChange Rows.bitsBackSpec) :=
  OpenClaim.holds_of_wide 10 Try.f10 rfl rfl rfl rfl rfl rfl rfl ⟨rfl, rfl, rfl, rfl, rfl⟩ rfl rfl rfl rfl rfl (by kernel_rfl) Try.func10 (by kernel_rfl)
    (of_decide_eq_true (by kernel_rfl)) (by unfold Func.isWrapper; first | (rw [if_pos (by decide +kernel)]; kernel_rfl) | (rw [if_neg (by decide +kernel)]; exact ⟨rfl, rfl⟩))
    (fun os started H enc _ => lifted os started H enc)
end LawBitsBack
/-- The given statement. -/
theorem bitsBack_proved : Rows.BitsBackSaid := LawBitsBack.over
#print axioms bitsBack_proved
end Go.Proofs.Ytjcanclmmgfhiaa
