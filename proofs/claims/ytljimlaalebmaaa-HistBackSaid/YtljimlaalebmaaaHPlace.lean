/- Where an operation of a number is: hist.place, by slices.BinarySearchFunc. -/
import Derived.Test.YtljimlaalebmaaaHPlain
import Derived.Deep.QuietTactic
namespace Go.Proofs.Ytljimlaalebmaaa
open Go.RowKit
set_option linter.unusedVariables false
set_option linter.unusedSimpArgs false
theorem NaN_c (x : Int) (w : World) : Calls Try.prog 40 #[.int .i64 x] w fun e w' => e = .returned (.bool false) ∧ w = w' := by
  have h : (x != x) = false := by simp
  go_enter Try.func40, Try.ntmps40
  go_wp2_with fail
  go_ret
  exact ⟨by simp, rfl⟩
/-- One number against another. -/
def cmpI (x y : Int) : Int := if x < y then -1 else if y < x then 1 else 0
set_option maxHeartbeats 1000000 in
theorem Compare_c (x y : Int) (w : World) : Calls Try.prog 25 #[.int .i64 x, .int .i64 y] w fun e w' => e = .returned (.int .i64 (cmpI x y)) ∧ w = w' := by
  have h1 := hid (fun (w : World) => NaN_c x w)
  have h2 := hid (fun (w : World) => NaN_c y w)
  have hd := hid (show x < y ∧ cmpI x y = -1 ∨ ¬ x < y ∧ y < x ∧ cmpI x y = 1 ∨ ¬ x < y ∧ ¬ y < x ∧ cmpI x y = 0 from by
    unfold cmpI
    by_cases e1 : x < y
    · exact .inl ⟨e1, if_pos e1⟩
    · rw [if_neg e1]
      by_cases e2 : y < x
      · exact .inr (.inl ⟨e1, e2, if_pos e2⟩)
      · exact .inr (.inr ⟨e1, e2, if_neg e2⟩))
  generalize cmpI x y = r at *
  rcases hd.out with ⟨e1, e3⟩ | ⟨e1, e2, e3⟩ | ⟨e1, e2, e3⟩
  all_goals
    clear hd
    have E3 := hid e3
    clear e3
    go_enter Try.func25, Try.ntmps25
    go_wp2_with fail
    refine (h1.out _).mono ?_
    rintro e w1 ⟨rfl, rfl⟩
    go_wp2_with fail
    refine (h2.out _).mono ?_
    rintro e w1 ⟨rfl, rfl⟩
    go_wp2_with fail
    go_ret
    exact ⟨by rw [E3.out]; rfl, rfl⟩
set_option maxRecDepth 100000 in
set_option maxHeartbeats 1000000 in
theorem placeO_c (o : OpR) (x : Int) (w : World) : Calls Try.prog 24 #[.agg #[.int .i64 o.id, .int .i64 o.proc, .int .i64 o.obj, .int .i64 o.kind, .int .i64 o.meth, .int .i64 o.arg, .int .i64 o.sec, .bool o.done, .int .i64 o.res, .int .i64 o.inv, .int .i64 o.ret], .int .i64 x] w fun e w' => e = .returned (.int .i64 (cmpI o.id x)) ∧ Grow w w' := by
  obtain ⟨id, proc, obj, kind, meth, arg, sec, done, res, inv, ret⟩ := o
  dsimp only
  have h1 := hid (fun (w : World) => Compare_c id x w)
  go_enter Try.func24, Try.ntmps24
  go_wp2_with fail
  refine (h1.out _).mono ?_
  rintro e w1 ⟨rfl, rfl⟩
  go_wp2_with fail
  go_ret
  exact ⟨rfl, Grow.alloc _ _⟩

theorem rise_le {l : List OpR} (h : Rises l) (i j : Nat) (hij : i ≤ j) (hj : j < l.length) : (opAt l i).id ≤ (opAt l j).id := by
  by_cases e : i = j
  · subst e; omega
  · have := h i j (by omega) hj
    omega
theorem ret_pair {i : Int} {a b : Bool} (h : a = b) : Ending.returned (.tuple #[.int .i64 i, .bool a]) = .returned (.tuple #[.int .i64 i, .bool b]) := by rw [h]
set_option maxRecDepth 100000 in
set_option maxHeartbeats 4000000 in
theorem SearchO_c (l : List OpR) (x : Int) (v : Value) (w : World) (hv : Ops w v l) (hs : Rises l) :
    Calls Try.prog 23 #[v, .int .i64 x, .func (.func 24) #[] #[]] w fun e w' => ∃ i : Nat, i ≤ l.length ∧ (∀ k, k < i → (opAt l k).id < x) ∧ (∀ k, i ≤ k → k < l.length → x ≤ (opAt l k).id) ∧ e = .returned (.tuple #[.int .i64 (i : Int), .bool (decide (i < l.length ∧ (opAt l i).id = x))]) ∧ Grow w w' := by
  obtain ⟨p, cap, rfl, hl, hc⟩ := hv.read
  have HC := hid hc
  have HS := hid (rise_le hs)
  have HP := hid (fun (o : OpR) (w : World) => placeO_c o x w)
  clear hc hs hv
  generalize hN : l.length = n at *
  clear hN
  go_enter Try.func23, Try.ntmps23
  go_wp2_with fail
  go_loopw [9, 10] (fun a b wr => ∃ i j : Nat, i ≤ j ∧ j ≤ n ∧ a = .int .i64 (i : Int) ∧ b = .int .i64 (j : Int) ∧ Hid (∀ k, k < i → (opAt l k).id < x) ∧ Hid (∀ k, j ≤ k → k < n → x ≤ (opAt l k).id) ∧ Grow w wr) (fun a b _ => (intOf b).toNat - (intOf a).toNat)
  case atStart => exact ⟨0, n, by omega, by omega, rfl, rfl, hid (fun k hk => by omega), hid (fun k h1 h2 => by omega), Grow.refl _⟩
  case round =>
    obtain ⟨i, j, hij, hj, rfl, rfl, H1, H2, hg⟩ := hrel
    by_cases hlt : i < j
    · have hlt1 : (i : Int) < (j : Int) := by omega
      have hq3 : ((i : Int) + (j : Int)) / 2 < (n : Int) := by omega
      have hq4 : (0 : Int) ≤ ((i : Int) + (j : Int)) / 2 := by omega
      obtain ⟨b, off, rfl, hc0⟩ := HC.out ((i + j) / 2) (by omega)
      have hm1 := fun k (h : k ≤ (i + j) / 2) => HS.out k ((i + j) / 2) h (by omega)
      have hm2 := fun k (h : (i + j) / 2 ≤ k) (h' : k < n) => HS.out ((i + j) / 2) k h h'
      have hl1 := fun w => HP.out (opAt l ((i + j) / 2)) w
      by_cases hlx : (opAt l ((i + j) / 2)).id < x
      · have H3 := hid (show ∀ k, k < (i + j) / 2 + 1 → (opAt l k).id < x from fun k hk => by have := hm1 k (by omega); omega)
        have hcm : cmpI (opAt l ((i + j) / 2)).id x = -1 := if_pos hlx
        rw [hcm] at hl1
        generalize opAt l ((i + j) / 2) = o at *
        obtain ⟨id, proc, obj, kind, meth, arg, sec, done, res, inv, ret⟩ := o
        have HL1 := hid hl1
        clear hl1 hm1 hm2 hlx hcm
        unfold OpAt at hc0
        dsimp only at hc0 HL1
        obtain ⟨c0, c1, c2, c3, c4, c5, c6, c7, c8, c9, c10⟩ := hc0
        replace c0 := hg.cell c0
        replace c1 := hg.cell c1
        replace c2 := hg.cell c2
        replace c3 := hg.cell c3
        replace c4 := hg.cell c4
        replace c5 := hg.cell c5
        replace c6 := hg.cell c6
        replace c7 := hg.cell c7
        replace c8 := hg.cell c8
        replace c9 := hg.cell c9
        replace c10 := hg.cell c10
        go_wp2_with fail
        refine (HL1.out _).mono ?_
        rintro e w1 ⟨rfl, b1⟩
        go_wp2_with fail
        go_roundw
        case rel => exact ⟨(i + j) / 2 + 1, j, by omega, hj, by (first | go_num | (congr 1; omega)), rfl, H3, H2, hg.trans b1⟩
        case measure => simp [intOf]; omega
      · have H3 := hid (show ∀ k, (i + j) / 2 ≤ k → k < n → x ≤ (opAt l k).id from fun k hk hk2 => by have := hm2 k hk hk2; omega)
        have hcm : cmpI (opAt l ((i + j) / 2)).id x = 1 ∨ cmpI (opAt l ((i + j) / 2)).id x = 0 := by unfold cmpI; rw [if_neg hlx]; split <;> simp
        generalize cmpI (opAt l ((i + j) / 2)).id x = r at *
        generalize opAt l ((i + j) / 2) = o at *
        obtain ⟨id, proc, obj, kind, meth, arg, sec, done, res, inv, ret⟩ := o
        have HL1 := hid hl1
        have hr0 : ¬ r < 0 := by omega
        clear hl1 hm1 hm2 hlx hcm
        unfold OpAt at hc0
        dsimp only at hc0 HL1
        obtain ⟨c0, c1, c2, c3, c4, c5, c6, c7, c8, c9, c10⟩ := hc0
        replace c0 := hg.cell c0
        replace c1 := hg.cell c1
        replace c2 := hg.cell c2
        replace c3 := hg.cell c3
        replace c4 := hg.cell c4
        replace c5 := hg.cell c5
        replace c6 := hg.cell c6
        replace c7 := hg.cell c7
        replace c8 := hg.cell c8
        replace c9 := hg.cell c9
        replace c10 := hg.cell c10
        go_wp2_with fail
        refine (HL1.out _).mono ?_
        rintro e w1 ⟨rfl, b1⟩
        go_wp2_with fail
        go_roundw
        case rel => exact ⟨i, (i + j) / 2, by omega, by omega, rfl, by (first | go_num | (congr 1; omega)), H1, H3, hg.trans b1⟩
        case measure => simp [intOf]; omega
    · obtain rfl : i = j := by omega
      clear hlt
      by_cases hin : i < n
      · obtain ⟨b, off, rfl, hc0⟩ := HC.out i hin
        have hi1 : (i : Int) < (n : Int) := by omega
        have hi0 : (0 : Int) ≤ (i : Int) := by omega
        have hl1 := fun w => HP.out (opAt l i) w
        have hle := H2.out i (by omega) hin
        have hd : decide (i < n ∧ (opAt l i).id = x) = (cmpI (opAt l i).id x == 0) := by
          unfold cmpI
          rw [if_neg (by omega)]
          by_cases e : x < (opAt l i).id
          · rw [if_pos e]; simp; intro _ h; omega
          · rw [if_neg e]; simp [hin]; omega
        have HD := hid hd
        clear hd hle
        generalize cmpI (opAt l i).id x = r at hl1 HD
        generalize opAt l i = o at hc0 hl1
        obtain ⟨id, proc, obj, kind, meth, arg, sec, done, res, inv, ret⟩ := o
        have HL1 := hid hl1
        clear hl1
        unfold OpAt at hc0
        dsimp only at hc0 HL1
        obtain ⟨c0, c1, c2, c3, c4, c5, c6, c7, c8, c9, c10⟩ := hc0
        replace c0 := hg.cell c0
        replace c1 := hg.cell c1
        replace c2 := hg.cell c2
        replace c3 := hg.cell c3
        replace c4 := hg.cell c4
        replace c5 := hg.cell c5
        replace c6 := hg.cell c6
        replace c7 := hg.cell c7
        replace c8 := hg.cell c8
        replace c9 := hg.cell c9
        replace c10 := hg.cell c10
        go_wp2_with fail
        refine (HL1.out _).mono ?_
        rintro e w1 ⟨rfl, b1⟩
        go_wp2_with fail
        go_ret2
        exact ⟨i, hj, H1.out, H2.out, ret_pair HD.out.symm, hg.trans b1⟩
      · have hd : decide (i < n ∧ (opAt l i).id = x) = false := decide_eq_false (fun h => hin h.1)
        have hi1 : ¬ (i : Int) < (n : Int) := by omega
        have HD := hid hd
        clear hd
        go_wp2_with fail
        go_ret2
        exact ⟨i, hj, H1.out, H2.out, ret_pair (by first | exact HD.out.symm | (rw [← Bool.decide_and]; exact HD.out.symm)), hg⟩

theorem there_spec {l : List OpR} {x : Int} {i : Nat} (h1 : ∀ k, k < i → (opAt l k).id < x) (h2 : ∀ k, i ≤ k → k < l.length → x ≤ (opAt l k).id) (hs : Rises l) : decide (i < l.length ∧ (opAt l i).id = x) = thereB l x := by
  by_cases h : i < l.length ∧ (opAt l i).id = x
  · rw [decide_eq_true h]
    exact (any_true h.1 (by simpa using h.2)).symm
  · rw [decide_eq_false h]
    refine (any_false fun k hk => ?_).symm
    rw [beq_eq_false_iff_ne]
    intro e
    by_cases hki : k < i
    · have := h1 k hki
      omega
    · by_cases e2 : k = i
      · subst e2
        exact h ⟨hk, e⟩
      · have a := hs i k (by omega) hk
        have b := h2 i (by omega) (by omega)
        omega
set_option maxRecDepth 100000 in
set_option maxHeartbeats 1000000 in
theorem place_c (l : List OpR) (x : Int) (v : Value) (w : World) (hv : Ops w v l) (hs : Rises l) :
    Calls Try.prog 14 #[v, .int .i64 x] w fun e w' => placeL l x ≤ l.length ∧ e = .returned (.tuple #[.int .i64 (placeL l x : Int), .bool (thereB l x)]) ∧ Grow w w' := by
  have h1 := hid (fun w hv => SearchO_c l x v w hv hs)
  have HV := hid hv
  have HT := hid (fun i hi h1 h2 => And.intro (placeL_spec l x i hi h1 (fun h => h2 i (by omega) h)) (there_spec h1 h2 hs))
  clear hv hs
  generalize thereB l x = b at *
  generalize placeL l x = z at *
  go_enter Try.func14, Try.ntmps14
  go_wp2_with fail
  refine (h1.out _ HV.out).mono ?_
  rintro e w1 ⟨i, hi, hi1, hi2, rfl, b1⟩
  have HT2 := HT.out i hi hi1 hi2
  rw [HT2.2]
  obtain ⟨rfl, -⟩ := HT2
  have HI := hid hi
  clear hi1 hi2 hi
  go_wp2_with fail
  go_ret2
  exact ⟨HI.out, rfl, b1⟩
/-- The operation of a number; none: opZ. -/
def getO (l : List OpR) (x : Int) : OpR := if thereB l x then opAt l (placeL l x) else opZ
theorem placeL_there {l : List OpR} {x : Int} (h : thereB l x = true) (hs : Rises l) : placeL l x < l.length ∧ (opAt l (placeL l x)).id = x := by
  unfold thereB at h
  rw [List.any_eq_true] at h
  obtain ⟨o, ho, e⟩ := h
  obtain ⟨k, hk, rfl⟩ := List.getElem_of_mem ho
  rw [← opAt_eq hk] at e
  have e' : (opAt l k).id = x := by simpa using e
  have : placeL l x = k := placeL_spec l x k (by omega) (fun j hj => by have := hs j k hj hk; omega) (fun _ => by omega)
  rw [this]
  exact ⟨hk, e'⟩
end Go.Proofs.Ytljimlaalebmaaa
