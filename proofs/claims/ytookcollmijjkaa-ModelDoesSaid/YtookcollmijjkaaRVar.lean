/- What the reference's Var computes. -/
import Derived.Test.YtookcollmijjkaaRows
import Derived.Test.YtookcollmijjkaaBitsPlain
import Derived.Test.YtookcollmijjkaaRely
namespace Go.Proofs.Ytookcollmijjkaa
open Go.RowKit
set_option linter.unusedVariables false
theorem rvar_join (n : Nat) (h : ¬ n < 128) (h64 : n < 18446744073709551616) : (ByteArray.mk [UInt8.ofNat (n % 128 + 128)].toArray ++ ByteArray.mk (varL (n / 128)).toArray) = ByteArray.mk (varL n).toArray := by
  rw [ByteArray.mk_append_mk, varL_big n h h64]
  rfl
set_option maxRecDepth 100000 in
set_option maxHeartbeats 400000 in
theorem RVar_f (f : Nat) : ∀ (n : Nat) (w : World), n < 128 * 128 ^ f → n < 18446744073709551616 → Calls Try.prog 37 #[.int .u64 n] w fun e w' => e = .returned (.string ⟨(varL n).toArray⟩) ∧ Below w.heap.size w w' := by
  have small : ∀ (n : Nat) (w : World), n < 128 → Calls Try.prog 37 #[.int .u64 n] w fun e w' => e = .returned (.string ⟨(varL n).toArray⟩) ∧ Below w.heap.size w w' := by
    intro n w hlt
    have hc1 := conv_one (P := Try.prog) Try.underlying59 Try.underlying5 Try.underlying9
    rw [varL_small n hlt]
    go_enter Try.func37, Try.ntmps37
    go_wp2_with fail
    go_ret
    exact ⟨rfl, (Below.refl _ _).alloc (Nat.le_refl _) _⟩
  induction f with
  | zero =>
    intro n w h _
    exact small n w (by simpa using h)
  | succ f ih =>
    intro n w h h64
    by_cases hlt : n < 128
    · exact small n w hlt
    · have hd : decide ((n : Int) < 128) = false := by simp; omega
      have hlen := varL_length (n / 128)
      have ih' := ih (n / 128)
      have hj := hid (rvar_join n hlt h64)
      have e1 := hid (show (n : Int).tmod 128 = (n : Int) % 128 from Int.tmod_eq_emod_of_nonneg (by omega))
      have e2 := hid (show IntKind.u64.wrap ((n : Int) % 128 + 128) = (n : Int) % 128 + 128 by rw [IntKind.wrap_u64]; omega)
      have e3 := hid (show IntKind.u8.wrap ((n : Int) % 128 + 128) = (n : Int) % 128 + 128 by rw [IntKind.wrap_u8']; omega)
      have e4 := hid (show IntKind.u64.wrap ((n : Int) / 128) = ((n / 128 : Nat) : Int) by rw [IntKind.wrap_u64]; omega)
      have e5 := hid (show (n : Int) % 128 + 128 = ((UInt8.ofNat (n % 128 + 128)).toNat : Int) by simp; omega)
      have h7 : n / 128 < 128 * 128 ^ f := by rw [Nat.pow_succ] at h; omega
      have e35 := hid (e3.out.trans e5.out)
      clear e3 e5
      generalize hb : UInt8.ofNat (n % 128 + 128) = b at hj e35
      clear hb
      go_enter Try.func37, Try.ntmps37
      go_wp2_with fail
      refine wp_rely [.eq (.int .u64 n), .eq (.int .u64 ((n : Int) % 128)), .eq (.int .u64 ((n : Int) % 128 + 128)), .eq (.int .u8 (b.toNat : Int)), .row #[.int .u8 (b.toNat : Int)] 5 1, .eq (.string ⟨[b].toArray⟩), .eq (.int .u64 n), .eq (.int .u64 ((n / 128 : Nat) : Int)), .eq (.string ⟨(varL (n/128)).toArray⟩), .eq (.string ⟨(varL n).toArray⟩), .eq (.string ⟨(varL n).toArray⟩)] (by kernel_rfl) (by kernel_rfl) (by kernel_rfl) ?_ ?_
      · simp only [relyGoals]
        refine ⟨?_, ?_, ?_, ?_, ?_, ?_, ?_, ?_, ?_, ?_, ?_, trivial⟩
        all_goals intro t w' hsz hg hdd hfr
        all_goals simp only [depsDid, Did, perAt, List.getElem?_cons_zero, List.getElem?_cons_succ, List.getD_cons_zero, List.getD_cons_succ, Per.eq, Per.row, and_true, Array.getD_eq_getD_getElem?] at hdd
        all_goals rw [if_pos (by rfl)]
        all_goals simp only [perAt, List.getD_cons_zero, List.getD_cons_succ, Per.eq, Per.row]
        · have h0 := hfr 0 rfl
          simp only [Array.getD_eq_getD_getElem?] at h0
          simp [execOp, Act.eval, h0, relyUpon, Grow.refl]
        · simp [execOp, Act.eval, hdd, relyUpon, Grow.refl, go_sem, e1.out]
        · simp [execOp, Act.eval, hdd, relyUpon, Grow.refl, go_sem, e2.out]
        · simp [execOp, Act.eval, hdd, relyUpon, Grow.refl, go_sem, e35.out]
        · simp [execOp, Act.eval, hdd, relyUpon, go_sem]
          exact ⟨Grow.alloc _ _, heap_newG _ _ _⟩
        · obtain ⟨g, hv, hh⟩ := hdd
          have hc := conv_row1 (P := Try.prog) Try.underlying59 Try.underlying5 Try.underlying9 w' g b hh
          simp [execOp, Act.eval, hv, relyUpon, hc, Grow.refl]
        · have h0 := hfr 0 rfl
          simp only [Array.getD_eq_getD_getElem?] at h0
          simp [execOp, Act.eval, h0, relyUpon, Grow.refl]
        · simp [execOp, Act.eval, hdd, relyUpon, Grow.refl, go_sem, e4.out]
        · simp [Act.eval, hdd, relyUpon, go_sem]
          exact (ih' w' h7 (by omega)).mono fun e w'' ⟨h1, h2⟩ => ⟨h1, h2⟩
        · have hle : ¬ 9223372036854775807 < 1 + (varL (n / 128)).length := by omega
          simp [execOp, Act.eval, hdd, relyUpon, go_sem, hle, Grow.refl]
          exact hj.out
        · simp [execOp, Act.eval, hdd, relyUpon, Grow.refl]
      · intro w1 hg
        simp only [relyEnd, List.headD_cons, List.tail_cons, Per.eq, Per.row]
        rintro _ rfl _ rfl _ rfl _ rfl _ ⟨g, rfl, hh⟩ _ rfl _ rfl _ rfl _ rfl _ rfl _ rfl
        clear hh ih ih' hj e1 e2 e4 e35
        go_simp
        go_wp2_with fail
        go_ret
        exact ⟨rfl, hg⟩
theorem RVar_c (n : Nat) (w : World) (hn : n < 18446744073709551616) : Calls Try.prog 37 #[.int .u64 n] w fun e w' => e = .returned (.string ⟨(varL n).toArray⟩) ∧ Below w.heap.size w w' :=
  RVar_f 9 n w (by rw [show 128 * 128 ^ 9 = 1180591620717411303424 from rfl]; omega) hn
end Go.Proofs.Ytookcollmijjkaa
