/- What bits.Var computes. -/
import Derived.Test.YtookcollmijjkaaRows
import Derived.Test.YtookcollmijjkaaBitsPlain
namespace Go.Proofs.Ytookcollmijjkaa
open Go.RowKit
set_option linter.unusedVariables false
theorem Try.infoVar : Info Try.prog 5 (.int .u8 0) 1 1 := by unfold Info; kernel_rfl
theorem push_var (l : List UInt8) (M : Nat) : u8s l ++ [.int .u8 (bits BinOp.or IntKind.u8 ((M : Int) % 256) 128)] = u8s (l ++ [UInt8.ofNat (M % 128 + 128)]) := by
  rw [u8s_append, var_or]
  rfl
theorem push_last (l : List UInt8) (M : Nat) (h : M < 128) : u8s l ++ [.int .u8 (M : Int)] = u8s (l ++ [UInt8.ofNat M]) := by
  rw [u8s_append]
  have e : (UInt8.ofNat M).toNat = M := by simp; omega
  simp [u8s, e]
theorem var_size (l : List UInt8) (M n : Nat) (h128 : 128 ≤ M) (hM : M < 18446744073709551616) (h : l ++ varL M = varL n) : l.length ≤ 8 := by
  have h1 := varL_length n
  have h2 : 2 ≤ (varL M).length := by
    rw [varL_big M (by omega) hM]
    have : 1 ≤ (varL (M / 128)).length := by unfold varL varF; split <;> simp
    simp only [List.length_cons]
    omega
  have := congrArg List.length h
  simp only [List.length_append] at this
  omega
theorem var_size' (l : List UInt8) (M n : Nat) (h : l ++ varL M = varL n) : l.length ≤ 9 := by
  have h1 := varL_length n
  have h2 : 1 ≤ (varL M).length := by unfold varL varF; split <;> simp
  have := congrArg List.length h
  simp only [List.length_append] at this
  omega
set_option maxRecDepth 100000 in
set_option maxHeartbeats 400000 in
theorem Var_c (n : Nat) (w : World) (hn : n < 18446744073709551616) : Calls Try.prog 35 #[.int .u64 n] w fun e w' => e = .returned (.string ⟨(varL n).toArray⟩) ∧ Below w.heap.size w w' := by
  go_enter Try.func35, Try.ntmps35
  go_wp2_with fail
  go_loopw [0, 3] (fun m v wr => ∃ (M : Nat) (l : List UInt8), m = .int .u64 (M : Int) ∧ wr.ownsRow w.heap.size 5 1 v l.length (u8s l) ∧ Below w.heap.size w wr ∧ M < 18446744073709551616 ∧ Hid (l ++ varL M = varL n)) (fun m _ _ => (intOf m).toNat)
  case atStart => exact ⟨n, [], rfl, World.ownsRow_nil _ _ _ _, Below.refl _ _, hn, hid rfl⟩
  case round =>
    obtain ⟨M, l, rfl, hown1, hb1, hM, HL⟩ := hrel
    have hsz := hb1.size
    by_cases hlt : 128 ≤ M
    · have h8 := var_size l M n hlt hM HL.out
      go_wp2_with (at_builtin; refine wpList_push rfl _ _ 59 rfl 5 (.int .u8 0) 1 1 Try.underlying59 Try.infoVar rfl (by omega) w.heap.size _ l.length _ rfl hown1 [_] rfl rfl (by simp [Value.oneCell']) (by unfold maxLen; omega) (by omega) hsz ?_)
      intro v' w' ho hgr hs'
      rw [push_var] at ho
      have hb2 := Row.below hb1 hgr hsz (fun k hk => (hown1.lt k hk).1)
      have hlen : (l ++ [UInt8.ofNat (M % 128 + 128)]).length = l.length + 1 := by simp
      rw [← hlen] at ho
      clear hown1 hb1 hgr hlen
      go_wp2_with fail
      go_roundw
      case rel => exact ⟨M / 128, _, by go_num, ho, hb2, by omega, hid (by rw [List.append_assoc, ← HL.out, varL_big M (by omega) hM]; rfl)⟩
      case measure => simp [intOf]; omega
    · have h9 := var_size' l M n HL.out
      go_wp2_with (at_builtin; refine wpList_push rfl _ _ 59 rfl 5 (.int .u8 0) 1 1 Try.underlying59 Try.infoVar rfl (by omega) w.heap.size _ l.length _ rfl hown1 [_] rfl rfl (by simp [Value.oneCell']) (by unfold maxLen; omega) (by omega) hsz ?_)
      intro v' w' ho hgr hs'
      rw [push_last l M (by omega)] at ho
      have hb2 := Row.below hb1 hgr hsz (fun k hk => (hown1.lt k hk).1)
      have hc := own_string (P := Try.prog) Try.underlying59 Try.underlying5 ho 9 Try.underlying9
      have HE := hid (show l ++ [UInt8.ofNat M] = varL n by rw [← HL.out, varL_small M (by omega)])
      clear hown1 hb1 hgr ho
      rw [HE.out] at hc
      go_wp2_with fail
      go_ret
      exact ⟨rfl, hb2⟩
end Go.Proofs.Ytookcollmijjkaa
