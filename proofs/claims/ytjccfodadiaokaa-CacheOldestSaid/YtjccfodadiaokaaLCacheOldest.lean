/- Of things that were put in order, and never used again, just the last are kept, the last ahead. -/
import Derived.Test.YtjccfodadiaokaaCIn
import Derived.Test.YtjccfodadiaokaaCSame
import Derived.Test.YtjccfodadiaokaaCOldPlain
namespace Go.Proofs.Ytjccfodadiaokaa
open Go.RowKit
set_option linter.unusedVariables false
set_option linter.unusedSimpArgs false
def sV : ByteArray := ⟨#[118]⟩
theorem old_bare (s : ByteArray) (m k t : Nat) (h : m ≤ t) : ((oldL s m k).map CItem.bare).take t = oldL s m k := by
  have e : (oldL s m k).map CItem.bare = oldL s m k := by
    unfold oldL
    rw [List.map_map]
    rfl
  rw [e]
  exact List.take_of_length_le (by rw [oldL_length]; omega)
theorem InCache.kept {w wr : World} {p : Nat} {most : Int} {l : List CItem} (h : InCache w wr p most l) (hl : l.length ≤ 1000000) (m : Int) (h1 : 1 ≤ m) :
    Calls Try.prog 19 #[.pointer (some ⟨p, 0, none⟩), .int .i64 m] wr fun e w' => ∃ lv, e = .returned lv ∧ RItems w' lv ((l.map CItem.bare).take m.toNat) ∧ Grow wr w' := by
  obtain ⟨v, h2, -⟩ := h
  refine (kept_c p most v l m wr h2 hl h1).mono ?_
  rintro e w' ⟨lv, rfl, ho, hg⟩
  exact ⟨lv, rfl, RItems.of_own ho (by rw [List.length_take, List.length_map]; omega), hg⟩
theorem InCache.grow {w wr w' : World} {p : Nat} {most : Int} {l : List CItem} (h : InCache w wr p most l) (g : Grow wr w') : InCache w w' p most l := by
  obtain ⟨v, h1, h2, h3, h4⟩ := h
  exact ⟨v, h1.grow g, h2, Below.trans h3 (Below.mono g h3.size), h4⟩
theorem InCache.len {w wr : World} {p : Nat} {most : Int} {l : List CItem} (h : InCache w wr p most l) : Calls Try.prog 14 #[.pointer (some ⟨p, 0, none⟩)] wr fun e w' => e = .returned (.int .i64 (l.length : Int)) ∧ wr = w' := by
  obtain ⟨v, h1, -⟩ := h
  exact Len_c p most v l wr h1
set_option maxRecDepth 100000 in
set_option maxHeartbeats 8000000 in
theorem Oldest_walk (a b few : Int) (w : World) (l0 : 0 ≤ a) (u0 : a ≤ 255) (l1 : 0 ≤ b) (u1 : b ≤ 255) (l2 : -9223372036854775808 ≤ few) (u2 : few ≤ 9223372036854775807) :
    Calls Try.prog 6 #[.int .u8 a, .int .u8 b, .int .i64 few] w fun e w' => e = .returned (.bool true) ∧ Below w.heap.size w w' := by
  have HW := hid (fun w => awake_c w)
  obtain ⟨m0, hm0, hm8⟩ : ∃ m0 : Nat, a.tmod 9 = (m0 : Int) ∧ m0 ≤ 8 := ⟨(a.tmod 9).toNat, by rw [Int.tmod_eq_emod_of_nonneg l0]; omega, by rw [Int.tmod_eq_emod_of_nonneg l0]; omega⟩
  obtain ⟨k, hk0, hk39⟩ : ∃ k : Nat, b.tmod 40 = (k : Int) ∧ k ≤ 39 := ⟨(b.tmod 40).toNat, by rw [Int.tmod_eq_emod_of_nonneg l1]; omega, by rw [Int.tmod_eq_emod_of_nonneg l1]; omega⟩
  have hm1 : a % 9 = (m0 : Int) := by rw [← Int.tmod_eq_emod_of_nonneg l0]; exact hm0
  have hk1 : b % 40 = (k : Int) := by rw [← Int.tmod_eq_emod_of_nonneg l1]; exact hk0
  have HNEW := hid (New_c ((m0 : Int) + 1) w (by omega) (by omega))
  have HPUTP := hid (fun i => show putP ((m0 : Int) + 1) (oldL sV (m0 + 1) i) (i : Int) ⟨#[118]⟩ = (oldL sV (m0 + 1) (i + 1), if i < m0 + 1 then 0 else (i : Int) - ((m0 : Int) + 1), decide (m0 + 1 ≤ i), 0) from by
    have := old_put sV (m0 + 1) i (by omega)
    rw [show ((m0 + 1 : Nat) : Int) = (m0 : Int) + 1 by omega] at this
    exact this)
  go_enter Try.func6, Try.ntmps6
  go_wp2_with fail
  refine HNEW.out.mono ?_
  rintro e w1 ⟨rfl, hc1, g1⟩
  have HC1 := hid (show InCache w w1 w.heap.size ((m0 : Int) + 1) (oldL sV (m0 + 1) 0) from ⟨_, hc1, fun k hk => absurd hk (by simp [Value.ownBlock]), g1, Nat.le_refl _⟩)
  clear hc1 g1 HNEW
  go_wp2_with fail
  go_loopw [11] (fun i wr => ∃ j : Nat, j ≤ k ∧ i = .int .i64 (j : Int) ∧ Hid (InCache w wr w.heap.size ((m0 : Int) + 1) (oldL sV (m0 + 1) j))) (fun i _ => k - (intOf i).toNat)
  case atStart => exact ⟨0, by omega, rfl, HC1⟩
  case round =>
    obtain ⟨j, hj, rfl, HC⟩ := hrel
    clear HC1
    by_cases hlt : j < k
    · have HPUT := hid (HC.out.put (by rw [oldL_length]; omega) (by omega) (j : Int) ⟨#[118]⟩)
      rw [HPUTP.out j] at HPUT
      dsimp only at HPUT
      have hjk : (j : Int) < (k : Int) := by omega
      by_cases hjm : j < m0 + 1
      · rw [if_pos hjm, decide_eq_false (by omega)] at HPUT
        have hd1 : ¬ ((m0 : Int) + 1 ≤ (j : Int)) := by omega
        have hd2 : ¬ (m0 + 1 ≤ j) := by omega
        go_wp2_with fail
        refine HPUT.out.mono ?_
        rintro e w2 ⟨rfl, hc2⟩
        have HC2 := hid hc2
        clear hc2 HPUT
        go_wp2_with fail
        go_roundw
        case rel => exact ⟨j + 1, by omega, by go_num, HC2⟩
        case measure => (simp [intOf]; try omega)
      · rw [if_neg hjm, decide_eq_true (by omega)] at HPUT
        have hd1 : (m0 : Int) + 1 ≤ (j : Int) := by omega
        have hd2 : m0 + 1 ≤ j := by omega
        go_wp2_with fail
        refine HPUT.out.mono ?_
        rintro e w2 ⟨rfl, hc2⟩
        have HC2 := hid hc2
        clear hc2 HPUT
        go_wp2_with fail
        go_roundw
        case rel => exact ⟨j + 1, by omega, by go_num, HC2⟩
        case measure => (simp [intOf]; try omega)
    · obtain rfl : j = k := by omega
      have hOl := oldL_length sV (m0 + 1) j
      have HAT := hid (fun q (h : q < (oldL sV (m0 + 1) j).length) => oldL_at sV (m0 + 1) j q h)
      have HB := hid (fun t ht => old_bare sV (m0 + 1) j t ht)
      have HTK := hid (fun F (hF : F ≤ (oldL sV (m0 + 1) j).length) => show ((oldL sV (m0 + 1) j).map CItem.bare).take F = (oldL sV (m0 + 1) j).take F from by
        have := old_bare sV (m0 + 1) j (m0 + 1) (Nat.le_refl _)
        rw [List.take_of_length_le (by rw [List.length_map, oldL_length]; omega)] at this
        rw [this])
      have HK1 := hid (HC.out.kept (by rw [oldL_length]; omega) 2000 (by omega))
      rw [show (2000 : Int).toNat = 2000 from rfl, HB.out 2000 (by omega)] at HK1
      clear HPUTP
      generalize oldL sV (m0 + 1) j = O at *
      obtain ⟨N, hN⟩ : ∃ N, N = O.length := ⟨_, rfl⟩
      have hN39 : N ≤ 39 := by omega
      have himin : min (j : Int) ((m0 : Int) + 1) = (N : Int) := by omega
      have hbne : ((N : Int) != (N : Int)) = false := by simp
      have HN := hid hN
      have HOL := hid hOl
      clear hN hOl
      go_wp2_with fail
      refine HK1.out.mono ?_
      rintro e w2 ⟨lv, rfl, hr, g2⟩
      have HC2 := hid (HC.out.grow g2)
      obtain ⟨A, c, rfl, -, hlc, -⟩ := id hr
      have HRI := hid hr
      have HL2 := hid (HC2.out.len)
      rw [← HN.out] at HL2 HRI hlc ⊢
      clear hr g2 HK1 HC
      go_wp2_with fail
      refine HL2.out.mono ?_
      rintro e w3 ⟨rfl, rfl⟩
      go_wp2_with fail
      clear himin hbne hlc
      go_loopw [16] (fun i wr => ∃ q : Nat, q ≤ N ∧ i = .int .i64 (q : Int) ∧ wr = w2) (fun i _ => N - (intOf i).toNat)
      case atStart => exact ⟨0, by omega, rfl, rfl⟩
      case round =>
        obtain ⟨q, hq, rfl, rfl⟩ := hrel
        by_cases hqN : q < N
        · obtain ⟨A', c', e, -, -, hat⟩ := HRI.out
          obtain ⟨g, e2, hat2⟩ := hat (by have := HN.out; omega)
          injection e with eA _ _
          rw [e2] at eA
          subst eA
          have hai := (hat2 q (by have := HN.out; omega)).1
          rw [HAT.out q (by have := HN.out; omega)] at hai
          replace hai : wr.cell? ⟨g, q * 3, none⟩ = some (.int .i64 ((j : Int) - 1 - (q : Int))) := hai
          clear hat hat2 e2
          have hq0 : (0 : Int) ≤ (q : Int) := by omega
          have hq1 : (q : Int) < (N : Int) := by omega
          go_wp2_with fail
          go_roundw
          case rel => exact ⟨q + 1, by omega, by go_num, trivial⟩
          case measure => (simp [intOf]; try omega)
        · obtain rfl : q = N := by omega
          have hBw := hid HC2.out.below
          by_cases hfew : 0 ≤ few ∧ few ≤ (q : Int)
          · obtain ⟨hf0, hf1⟩ := hfew
            obtain ⟨F, rfl⟩ : ∃ F : Nat, few = (F : Int) := ⟨few.toNat, by omega⟩
            have hfc : (F : Int) ≤ (c : Int) := by
              obtain ⟨A', c', e, -, hlc, -⟩ := HRI.out
              injection e with _ _ ec
              have := HN.out
              omega
            have hfq : F ≤ q := by omega
            have HKF := hid (show ∀ w', Grow wr w' → Calls Try.prog 19 #[.pointer (some ⟨w.heap.size, 0, none⟩), .int .i64 (F : Int)] w' fun e w'' => ∃ lv, e = .returned lv ∧ RItems w'' lv (O.take F) ∧ Grow w' w'' from fun w' g => by
              by_cases hz : F = 0
              · subst hz
                refine (keptNone_c _ _ w' (by omega)).mono ?_
                rintro e w'' ⟨rfl, g2⟩
                exact ⟨_, rfl, by rw [List.take_zero]; exact RItems.nil _, g2⟩
              · have h := (HC2.out.grow g).kept (by have := HN.out; omega) (F : Int) (by omega)
                rw [show ((F : Int)).toNat = F from by omega, HTK.out F (by have := HN.out; omega)] at h
                exact h)
            have HSL := hid (show ∀ w', Grow wr w' → RItems w' (.slice A F c) (O.take F) from fun w' g => (HRI.out.take F (by have := HN.out; omega)).grow g)
            go_wp2_with fail
            clear HC2 HL2 HRI HAT HB HTK
            have hF0 : (0 : Int) ≤ (F : Int) := by omega
            have hFn : F ≤ c := by omega
            refine wp_rely [.eq (.pointer (some ⟨w.heap.size, 0, none⟩)), .eq (.int .i64 (F : Int)), (⟨fun v w => RItems w v (O.take F), fun _ _ _ h g => RItems.grow h g⟩ : Per), .eq (.slice A q c), .eq (.int .i64 (F : Int)), .eq (.slice A F c), .eq (.bool true), .eq (.bool true), .eq (.bool true), .eq (.bool true), .eq (.bool true)] (by kernel_rfl) (by kernel_rfl) (by kernel_rfl) ?_ ?_
            · simp only [relyGoals]
              refine ⟨?_, ?_, ?_, ?_, ?_, ?_, ?_, ?_, ?_, ?_, ?_, trivial⟩
              all_goals intro t w' hsz hg hdd hfr
              all_goals simp only [depsDid, Did, perAt, List.getElem?_cons_zero, List.getElem?_cons_succ, List.getD_cons_zero, List.getD_cons_succ, Per.eq, Per.row, Per.of, and_true, Array.getD_eq_getD_getElem?] at hdd
              · rw [if_pos (by rfl)]
                try simp only [perAt, List.getD_cons_zero, List.getD_cons_succ, Per.eq, Per.row, Per.of]
                have hs9 := hfr 9 (by kernel_rfl)
                simp only [Array.getD_eq_getD_getElem?] at hs9
                simp [execOp, Act.eval, hdd, hs9, relyUpon, go_sem, Grow.refl]
              · rw [if_pos (by rfl)]
                try simp only [perAt, List.getD_cons_zero, List.getD_cons_succ, Per.eq, Per.row, Per.of]
                have hs2 := hfr 2 (by kernel_rfl)
                simp only [Array.getD_eq_getD_getElem?] at hs2
                simp [execOp, Act.eval, hdd, hs2, relyUpon, go_sem, Grow.refl]
              · rw [if_pos (by rfl)]
                try simp only [perAt, List.getD_cons_zero, List.getD_cons_succ, Per.eq, Per.row, Per.of]
                simp [execOp, Act.eval, hdd, relyUpon, go_sem]
                refine (HKF.out w' hg).mono fun e w'' h => ?_
                obtain ⟨lv, h1, h2, h3⟩ := h
                subst h1
                first | exact ⟨_, rfl, h3, h2⟩ | exact ⟨h3, h2⟩
              · rw [if_pos (by rfl)]
                try simp only [perAt, List.getD_cons_zero, List.getD_cons_succ, Per.eq, Per.row, Per.of]
                have hs15 := hfr 15 (by kernel_rfl)
                simp only [Array.getD_eq_getD_getElem?] at hs15
                simp [execOp, Act.eval, hdd, hs15, relyUpon, go_sem, Grow.refl]
              · rw [if_pos (by rfl)]
                try simp only [perAt, List.getD_cons_zero, List.getD_cons_succ, Per.eq, Per.row, Per.of]
                have hs2 := hfr 2 (by kernel_rfl)
                simp only [Array.getD_eq_getD_getElem?] at hs2
                simp [execOp, Act.eval, hdd, hs2, relyUpon, go_sem, Grow.refl]
              · rw [if_pos (by rfl)]
                try simp only [perAt, List.getD_cons_zero, List.getD_cons_succ, Per.eq, Per.row, Per.of]
                simp [execOp, Act.eval, hdd, relyUpon, go_sem, Grow.refl, hfc, hF0, hFn]
              · rw [if_pos (by rfl)]
                try simp only [perAt, List.getD_cons_zero, List.getD_cons_succ, Per.eq, Per.row, Per.of]
                obtain ⟨k1, k2, -⟩ := hdd
                simp [execOp, Act.eval, k2, relyUpon, go_sem]
                refine (same_c _ _ _ w' k1 (HSL.out w' hg)).mono fun e w'' h => ?_
                obtain ⟨h1, h2⟩ := h
                first | exact ⟨h2, h1⟩ | exact ⟨_, h1, h2, rfl⟩ | exact ⟨h1, h2⟩
              · rw [if_pos (by rfl)]
                try simp only [perAt, List.getD_cons_zero, List.getD_cons_succ, Per.eq, Per.row, Per.of]
                simp [execOp, Act.eval, hdd, relyUpon, go_sem, Grow.refl]
              · rw [if_pos (by simp only [Region.wanted]; rw [yielded_of (d := 108) (b := true) rfl (by simp only [hdd])]; rfl)]
                try simp only [perAt, List.getD_cons_zero, List.getD_cons_succ, Per.eq, Per.row, Per.of]
                simp [execOp, Act.eval, hdd, relyUpon, go_sem]
                refine (HW.out w').mono fun e w'' h => ?_
                obtain ⟨h1, h2⟩ := h
                have h3 : Grow w' w'' := by first | exact h2 | (rw [← h2]; exact Grow.refl _)
                first | exact ⟨h3, h1⟩ | exact ⟨_, h1, h3, rfl⟩ | exact ⟨h1, h3⟩
              · rw [if_pos (by rfl)]
                try simp only [perAt, List.getD_cons_zero, List.getD_cons_succ, Per.eq, Per.row, Per.of]
                simp [execOp, Act.eval, hdd, relyUpon, go_sem, Grow.refl]
              · rw [if_pos (by rfl)]
                try simp only [perAt, List.getD_cons_zero, List.getD_cons_succ, Per.eq, Per.row, Per.of]
                simp [execOp, Act.eval, hdd, relyUpon, go_sem, Grow.refl]
            intro wz hgz
            simp only [relyEnd, List.headD_cons, List.tail_cons, Per.eq, Per.row, Per.of]
            rintro _ rfl _ rfl _ _ _ rfl _ rfl _ rfl _ rfl _ rfl _ rfl _ rfl _ rfl
            go_simp
            go_wp2_with fail
            go_ret
            exact ⟨rfl, Below.trans hBw.out (Below.mono hgz hBw.out.size)⟩
          · by_cases hf0 : 0 ≤ few
            · have hf1 : ¬ few ≤ (q : Int) := by omega
              clear hfew
              go_wp2_with fail
              refine (HW.out _).mono ?_
              rintro e w5 ⟨rfl, b5⟩
              go_wp2_with fail
              go_ret
              exact ⟨rfl, Below.trans hBw.out (Below.mono b5 hBw.out.size)⟩
            · clear hfew
              go_wp2_with fail
              refine (HW.out _).mono ?_
              rintro e w5 ⟨rfl, b5⟩
              go_wp2_with fail
              go_ret
              exact ⟨rfl, Below.trans hBw.out (Below.mono b5 hBw.out.size)⟩
namespace LawCacheOldest
open Go.ChangeShapes Go.WideShapes Go.ChangeAt Go.RowKit
open Go.ChangeMaps (open_string shut_string)
theorem own : ownKnob Try.prog.godebug = none := by kernel_rfl
theorem laidOut : laidOutB Try.prog = true := by kernel_rfl
set_option maxRecDepth 100000 in
theorem lifted (os : Os) (started : os.Started) (H : Type) (enc : TypeId × Value → H) :
    ReturnsInHanded {} Try.checked os 6 .any (Rows.cacheOldestSpec.pre6 enc Try.prog Try.f6 Rows.cacheOldestRow.domain false) (Rows.cacheOldestSpec.post enc Try.prog Try.f6 false true false false) := by
  refine returnsInHanded_of_change_sized (C := Try.checked) own started (by kernel_rfl) Try.func6
    (ChangeSpec.witness6 (enc := enc) (C := Try.checked) false ⟨#[], #[.int .u8 0, .int .u8 0, .int .i64 0], []⟩ 8 (by kernel_rfl) (by kernel_rfl) (by kernel_rfl) (by kernel_rfl)) ?_
  intro W base args ds gs before hval0 hW hcnd hsz _
  have hval : ∀ (j : Nat) t v, Try.f6.params[j]? = some t → args[j]? = some v → Value.okWide Try.prog W .any base t v := hval0
  have hW' := hW
  obtain ⟨p, q, hA0, hV, rfl, hfz, hnd⟩ := hW
  have hA : DataW.TrodAll enc Try.prog W 0 (fun _ => true) true Try.f6.params.toList args.toList ds p := hA0
  rw [Try.params6] at hA hval hsz
  obtain ⟨v0, vs0, d0, ds0, p0, q0, hargs, rfl, rfl, h0, r0⟩ := trodAll_cons hA
  obtain ⟨v1, vs1, d1, ds1, p1, q1, rfl, rfl, rfl, h1, r1⟩ := trodAll_cons r0
  obtain ⟨v2, vs2, d2, ds2, p2, q2, rfl, rfl, rfl, h2, r2⟩ := trodAll_cons r1
  obtain ⟨rfl, rfl, rfl⟩ := trodAll_nil r2
  obtain rfl : args = #[v0, v1, v2] := by cases args; simp_all
  obtain ⟨rfl, rfl⟩ := trodVars_none hV
  obtain ⟨a0, rfl, rfl, rfl, w0⟩ := open_int Try.underlying5 (hval 0 5 v0 rfl rfl) h0
  have b0 := wf_u8 w0
  obtain ⟨a1, rfl, rfl, rfl, w1⟩ := open_int Try.underlying5 (hval 1 5 v1 rfl rfl) h1
  have b1 := wf_u8 w1
  obtain ⟨a2, rfl, rfl, rfl, w2⟩ := open_int Try.underlying3 (hval 2 3 v2 rfl rfl) h2
  have b2 := wf_i64 w2
  clear hA0 hval0
  refine (Oldest_walk a0 a1 a2 W b0.1 b0.2 b1.1 b1.2 b2.1 b2.2).mono fun e W' ⟨he, bel⟩ => ?_
  subst he
  exact ⟨_, rfl, _, _, _, [], _, [], hW', trodAll_mk1 (shut_bool Try.underlying4 _), (trodAll_cons_mk (shut_int Try.underlying5 w0) (trodAll_cons_mk (shut_int Try.underlying5 w1) (trodAll_cons_mk (shut_int Try.underlying3 w2) trodAll_mk0))), rfl, bel.frame _, fun h => by cases h⟩
theorem over : Rows.cacheOldestRow.holds Try.pinned (OpenSpec.ofChange Rows.cacheOldestSpec) :=
  OpenClaim.holds_of_wide 6 Try.f6 rfl rfl rfl rfl rfl rfl rfl ⟨rfl, rfl, rfl, rfl, rfl⟩ rfl rfl rfl rfl rfl (by kernel_rfl) Try.func6 (by kernel_rfl)
    (of_decide_eq_true (by kernel_rfl)) (by unfold Func.isWrapper; first | (rw [if_pos (by decide +kernel)]; kernel_rfl) | (rw [if_neg (by decide +kernel)]; exact ⟨rfl, rfl⟩))
    (fun os started H enc _ => lifted os started H enc)
end LawCacheOldest
/-- The given statement. -/
theorem cacheOldest_proved : Rows.CacheOldestSaid := LawCacheOldest.over
#print axioms cacheOldest_proved
end Go.Proofs.Ytjccfodadiaokaa
