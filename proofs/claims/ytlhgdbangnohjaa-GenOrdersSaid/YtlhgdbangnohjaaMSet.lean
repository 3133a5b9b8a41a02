/- What model.set computes. -/
import Derived.Test.YtlhgdbangnohjaaMDelete
import Derived.Test.YtlhgdbangnohjaaMStep
namespace Go.Proofs.Ytlhgdbangnohjaa
open Go.RowKit
set_option linter.unusedVariables false
set_option linter.unusedSimpArgs false
theorem rise_at {xs : List Int} (hs : xs.Pairwise (· < ·)) {i j : Nat} (hij : i < j) (hj : j < xs.length) : xs.getD i 0 < xs.getD j 0 := by
  have := List.pairwise_iff_getElem.1 hs i j (by omega) hj hij
  simp only [List.getD, List.getElem?_eq_getElem hj, List.getElem?_eq_getElem (show i < xs.length by omega), Option.getD_some]
  exact this
theorem mem_at {xs : List Int} {x : Int} (h : x ∈ xs) : ∃ i, i < xs.length ∧ xs.getD i 0 = x := by
  obtain ⟨i, hi, e⟩ := List.mem_iff_getElem.1 h
  exact ⟨i, hi, by simp [List.getD, List.getElem?_eq_getElem hi, e]⟩
theorem at_mem {xs : List Int} {x : Int} {i : Nat} (hi : i < xs.length) (e : xs.getD i 0 = x) : x ∈ xs := by
  simp only [List.getD, List.getElem?_eq_getElem hi, Option.getD_some] at e
  exact e ▸ List.getElem_mem hi
theorem search_ins (x : Int) : ∀ (xs : List Int) (i : Nat), i ≤ xs.length → (∀ k, k < i → xs.getD k 0 < x) → (∀ k, i ≤ k → k < xs.length → x < xs.getD k 0) → xs.take i ++ x :: xs.drop i = insL x xs
  | [], i, hi, _, _ => by
    obtain rfl : i = 0 := by simpa using hi
    rfl
  | y :: l, 0, hi, _, h2 => by
    have := h2 0 (by omega) (by simp)
    simp only [List.getD_cons_zero] at this
    unfold insL
    rw [if_pos this]
    rfl
  | y :: l, i + 1, hi, h1, h2 => by
    have := h1 0 (by omega)
    simp only [List.getD_cons_zero] at this
    unfold insL
    rw [if_neg (by omega)]
    have ih := search_ins x l i (by simpa using hi) (fun k hk => by have := h1 (k + 1) (by omega); simpa using this) (fun k hk hl => by have := h2 (k + 1) (by omega) (by simpa using hl); simpa using this)
    rw [← ih]
    rfl
theorem search_cut (x : Int) : ∀ (xs : List Int) (i : Nat), xs.Pairwise (· < ·) → i < xs.length → xs.getD i 0 = x → xs.take i ++ xs.drop (i + 1) = xs.filter (fun y => decide (y ≠ x))
  | [], i, _, hi, _ => by simp at hi
  | y :: l, 0, hs, _, e => by
    simp only [List.getD_cons_zero] at e
    subst e
    have hp := (List.pairwise_cons.1 hs).1
    simp only [List.take_zero, List.nil_append, List.drop_succ_cons, List.drop_zero]
    rw [List.filter_cons_of_neg (by simp)]
    refine (List.filter_eq_self.2 fun z hz => ?_).symm
    have := hp z hz
    simp; omega
  | y :: l, i + 1, hs, hi, e => by
    have hp := List.pairwise_cons.1 hs
    have hi' : i < l.length := by simpa using hi
    have e' : l.getD i 0 = x := by simpa using e
    have hy := hp.1 x (at_mem hi' e')
    rw [List.filter_cons_of_pos (by simp; omega), ← search_cut x l i hp.2 hi' e']
    rfl
theorem SearchIn_c (xs : List Int) (x : Int) (v : Value) (w : World) (hv : Ints w v xs) (hs : xs.Pairwise (· < ·)) (hx : x ∈ xs) :
    Calls Try.prog 58 #[v, .int .i64 x] w fun e w' => ∃ i : Nat, i < xs.length ∧ xs.take i ++ xs.drop (i + 1) = xs.filter (fun y => decide (y ≠ x)) ∧ e = .returned (.tuple #[.int .i64 (i : Int), .bool true]) ∧ w = w' := by
  refine (Search_c xs x v w hv hs).mono ?_
  rintro e w' ⟨i, hi, h1, h2, rfl, rfl⟩
  obtain ⟨j, hj, ej⟩ := mem_at hx
  have hij : ¬ j < i := fun h => by have := h1 j h; omega
  have hil : i < xs.length := by omega
  have e : xs.getD i 0 = x := by
    by_cases he : i = j
    · rw [he, ej]
    · have a := h2 i (Nat.le_refl _) hil
      have b := rise_at hs (show i < j by omega) hj
      omega
  exact ⟨i, hil, search_cut x xs i hs hil e, by rw [decide_eq_true ⟨hil, e⟩], rfl⟩
theorem SearchOut_c (xs : List Int) (x : Int) (v : Value) (w : World) (hv : Ints w v xs) (hs : xs.Pairwise (· < ·)) (hx : x ∉ xs) :
    Calls Try.prog 58 #[v, .int .i64 x] w fun e w' => ∃ i : Nat, i ≤ xs.length ∧ xs.take i ++ x :: xs.drop i = insL x xs ∧ e = .returned (.tuple #[.int .i64 (i : Int), .bool false]) ∧ w = w' := by
  refine (Search_c xs x v w hv hs).mono ?_
  rintro e w' ⟨i, hi, h1, h2, rfl, rfl⟩
  refine ⟨i, hi, search_ins x xs i hi h1 (fun k hk hl => ?_), by rw [decide_eq_false (fun h => hx (at_mem h.1 h.2))], rfl⟩
  have a := h2 k hk hl
  have b : xs.getD k 0 ≠ x := fun e => hx (at_mem hl e)
  omega
theorem flag_c (b : Bool) (w : World) : Calls Try.prog 59 #[.bool b] w fun e w' => e = .returned (.int .i64 (if b = true then 1 else 0)) ∧ w = w' := by
  cases b
  all_goals
    go_enter Try.func59, Try.ntmps59
    go_wp2_with fail
    go_ret
    exact ⟨rfl, rfl⟩
set_option maxRecDepth 100000 in
set_option maxHeartbeats 4000000 in
theorem set_c (xs : List Int) (o : OpR) (v : Value) (w : World) (base : Nat) (hb : base ≤ w.heap.size) (hn : xs.length < 20000000000000) (hs : xs.Pairwise (· < ·)) (hv : w.ownsRow base 3 1 v xs.length (i64s xs)) :
    Calls Try.prog 55 #[v, .agg #[.int .i64 o.id, .int .i64 o.proc, .int .i64 o.obj, .int .i64 o.kind, .int .i64 o.meth, .int .i64 o.arg, .int .i64 o.sec, .bool o.done, .int .i64 o.res, .int .i64 o.inv, .int .i64 o.ret]] w (DoPost base (setL xs o) w) := by
  obtain ⟨id, proc, obj, kind, meth, arg, sec, done, res, inv, ret⟩ := o
  dsimp only
  have HI := hid (Ints.of_own hv (by omega))
  have HO := hid hv
  have HS1 := hid (fun (w : World) (h : Ints w v xs) (hx : arg ∈ xs) => SearchIn_c xs arg v w h hs hx)
  have HS2 := hid (fun (w : World) (h : Ints w v xs) (hx : arg ∉ xs) => SearchOut_c xs arg v w h hs hx)
  have HF := hid (fun (b : Bool) (w : World) => flag_c b w)
  have HP := hid (fun (i : Nat) (w : World) (base vb : Nat) hi hb hv hx hk => Insert_c xs arg i v w base vb hi hb hn hv hx hk)
  have HD := hid (fun (i : Nat) (w : World) (base : Nat) hi hv => Delete_c xs i v w base hi (by omega) hv)
  have HG := hid (Grow.alloc w (.cells #[.int .i64 id, .int .i64 proc, .int .i64 obj, .int .i64 kind, .int .i64 meth, .int .i64 arg, .int .i64 sec, .bool done, .int .i64 res, .int .i64 inv, .int .i64 ret] 52))
  obtain ⟨A, c, rfl⟩ := own_formM hv
  have HN := hid hn
  clear hv hs hn
  by_cases hin : arg ∈ xs
  · have HS := hid (fun w h => HS1.out w h hin)
    by_cases m12 : meth = 12
    · subst m12
      have hR : setL xs ⟨id, proc, obj, kind, 12, arg, sec, done, res, inv, ret⟩ = (xs, 1, true) := by simp [setL, hin]
      rw [hR]
      clear hin hR
      go_enter Try.func55, Try.ntmps55
      go_wp2_with fail
      refine (HS.out _ (HI.out.grow HG.out)).mono ?_
      rintro e w1 ⟨i, hi, hcut, rfl, rfl⟩
      have HC := hid hcut
      clear hcut
      go_wp2_with fail
      refine (HF.out _ _).mono ?_
      rintro e w1 ⟨rfl, rfl⟩
      go_wp2_with fail
      go_ret3
      exact DoPost.intro rfl rfl ⟨HI.out.grow HG.out, Lies.own HO.out⟩ ((Below.refl _ _).alloc hb _)
    · by_cases m10 : meth = 10
      · subst m10
        have hR : setL xs ⟨id, proc, obj, kind, 10, arg, sec, done, res, inv, ret⟩ = (xs, 0, true) := by simp [setL, hin]
        rw [hR]
        clear hin hR m12
        go_enter Try.func55, Try.ntmps55
        go_wp2_with fail
        refine (HS.out _ (HI.out.grow HG.out)).mono ?_
        rintro e w1 ⟨i, hi, hcut, rfl, rfl⟩
        have HC := hid hcut
        clear hcut
        go_wp2_with fail
        refine (HF.out _ _).mono ?_
        rintro e w1 ⟨rfl, rfl⟩
        go_wp2_with fail
        go_ret3
        exact DoPost.intro rfl rfl ⟨HI.out.grow HG.out, Lies.own HO.out⟩ ((Below.refl _ _).alloc hb _)
      · by_cases m11 : meth = 11
        · subst m11
          have hR : setL xs ⟨id, proc, obj, kind, 11, arg, sec, done, res, inv, ret⟩ = (xs.filter (fun y => decide (y ≠ arg)), 1, true) := by simp [setL, hin]
          rw [hR]
          clear hin hR m12 m10
          go_enter Try.func55, Try.ntmps55
          go_wp2_with fail
          refine (HS.out _ (HI.out.grow HG.out)).mono ?_
          rintro e w1 ⟨i, hi, hcut, rfl, rfl⟩
          have HC := hid hcut
          clear hcut
          have hin2 : IntKind.i64.wrap ((i : Int) + 1) = (i : Int) + 1 := by have := HN.out; rw [IntKind.wrap_i64]; omega
          go_wp2_with fail
          refine (HD.out i _ base hi (HO.out.alloc _)).mono ?_
          rintro e w1 ⟨v', rfl, hi2, b2⟩
          rw [HC.out] at hi2
          go_wp2_with fail
          go_ret3
          exact DoPost.intro rfl rfl hi2 (((Below.refl _ _).alloc hb _).trans b2)
        · have hR : setL xs ⟨id, proc, obj, kind, meth, arg, sec, done, res, inv, ret⟩ = ([], 0, false) := by simp [setL, m12, m10, m11]
          rw [hR]
          clear hin hR
          go_enter Try.func55, Try.ntmps55
          go_wp2_with fail
          refine (HS.out _ (HI.out.grow HG.out)).mono ?_
          rintro e w1 ⟨i, hi, hcut, rfl, rfl⟩
          have HC := hid hcut
          clear hcut
          go_wp2_with fail
          go_ret3
          exact DoPost.intro rfl rfl IntsF.nil ((Below.refl _ _).alloc hb _)
  · have HS := hid (fun w h => HS2.out w h hin)
    by_cases m12 : meth = 12
    · subst m12
      have hR : setL xs ⟨id, proc, obj, kind, 12, arg, sec, done, res, inv, ret⟩ = (xs, 0, true) := by simp [setL, hin]
      rw [hR]
      clear hin hR
      go_enter Try.func55, Try.ntmps55
      go_wp2_with fail
      refine (HS.out _ (HI.out.grow HG.out)).mono ?_
      rintro e w1 ⟨i, hi, hcut, rfl, rfl⟩
      have HC := hid hcut
      clear hcut
      go_wp2_with fail
      refine (HF.out _ _).mono ?_
      rintro e w1 ⟨rfl, rfl⟩
      go_wp2_with fail
      go_ret3
      exact DoPost.intro rfl rfl ⟨HI.out.grow HG.out, Lies.own HO.out⟩ ((Below.refl _ _).alloc hb _)
    · by_cases m10 : meth = 10
      · subst m10
        have hR : setL xs ⟨id, proc, obj, kind, 10, arg, sec, done, res, inv, ret⟩ = (insL arg xs, 1, true) := by simp [setL, hin]
        rw [hR]
        clear hin hR m12
        go_enter Try.func55, Try.ntmps55
        go_wp2_with fail
        refine (HS.out _ (HI.out.grow HG.out)).mono ?_
        rintro e w1 ⟨i, hi, hcut, rfl, rfl⟩
        have HC := hid hcut
        clear hcut
        go_wp2_with fail
        refine (HP.out i _ base _ hi (by simp; omega) ((HO.out.alloc _).alloc _) (heap_newAt _ _ (by simp)) (fun k hk => by have := (HO.out.lt k hk).2; omega)).mono ?_
        rintro e w1 ⟨v', rfl, hi2, b2⟩
        rw [HC.out] at hi2
        go_wp2_with fail
        go_ret3
        exact DoPost.intro rfl rfl hi2 ((((Below.refl _ _).alloc hb _).alloc (by simp; omega) _).trans b2)
      · by_cases m11 : meth = 11
        · subst m11
          have hR : setL xs ⟨id, proc, obj, kind, 11, arg, sec, done, res, inv, ret⟩ = (xs, 0, true) := by simp [setL, hin]
          rw [hR]
          clear hin hR m12 m10
          go_enter Try.func55, Try.ntmps55
          go_wp2_with fail
          refine (HS.out _ (HI.out.grow HG.out)).mono ?_
          rintro e w1 ⟨i, hi, hcut, rfl, rfl⟩
          have HC := hid hcut
          clear hcut
          go_wp2_with fail
          refine (HF.out _ _).mono ?_
          rintro e w1 ⟨rfl, rfl⟩
          go_wp2_with fail
          go_ret3
          exact DoPost.intro rfl rfl ⟨HI.out.grow HG.out, Lies.own HO.out⟩ ((Below.refl _ _).alloc hb _)
        · have hR : setL xs ⟨id, proc, obj, kind, meth, arg, sec, done, res, inv, ret⟩ = ([], 0, false) := by simp [setL, m12, m10, m11]
          rw [hR]
          clear hin hR
          go_enter Try.func55, Try.ntmps55
          go_wp2_with fail
          refine (HS.out _ (HI.out.grow HG.out)).mono ?_
          rintro e w1 ⟨i, hi, hcut, rfl, rfl⟩
          have HC := hid hcut
          clear hcut
          go_wp2_with fail
          go_ret3
          exact DoPost.intro rfl rfl IntsF.nil ((Below.refl _ _).alloc hb _)
end Go.Proofs.Ytlhgdbangnohjaa
