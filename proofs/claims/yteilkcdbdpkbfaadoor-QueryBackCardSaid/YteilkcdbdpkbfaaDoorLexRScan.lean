/- What the reference's Scan computes. -/
import Derived.Test.YteilkcdbdpkbfaaDoorLexToks
import Derived.Test.YteilkcdbdpkbfaaDoorPush
import Derived.Outline
namespace Go.Proofs.YteilkcdbdpkbfaaDoor
open Go.RowKit
set_option linter.unusedVariables false
set_option linter.unusedSimpArgs false
theorem infoRTok : Info Tryd.prog 54 (.agg #[.int .i64 0, .string ⟨#[]⟩, .int .i64 0, .int .i64 0]) 4 40 := by unfold Info; kernel_rfl
theorem clsP1 : clsP 1 = isLet := rfl
theorem clsP2 : clsP 2 = isDig := rfl
theorem class2 {L : List UInt8} (h : 0 < digs L) : classN L = 2 := by
  rw [digs_pos] at h
  cases L with
  | nil => exact absurd h (by decide)
  | cons b l =>
    have hb : isDig b = true := h
    have : isLet b = false := by simp [isLet, isDig] at *; omega
    simp [classN, this, hb]
theorem class1 {L : List UInt8} (h : 0 < lets L) : classN L = 1 := by
  rw [lets_pos] at h
  cases L with
  | nil => exact absurd h (by decide)
  | cons b l =>
    have hb : isLet b = true := h
    simp [classN, hb]
theorem class01 {L : List UInt8} (h : ¬ 0 < digs L) : classN L = 0 ∨ classN L = 1 := by
  rw [digs_pos] at h
  cases L with
  | nil => exact .inl rfl
  | cons b l =>
    have hb : ¬ isDig b = true := h
    by_cases hl : isLet b <;> simp [classN, hb, hl]
theorem class0 {L : List UInt8} (h : ¬ 0 < digs L) (h' : ¬ 0 < lets L) : classN L = 0 := by
  rw [digs_pos] at h
  rw [lets_pos] at h'
  cases L with
  | nil => rfl
  | cons b l =>
    have hb : ¬ isDig b = true := h
    have hl : ¬ isLet b = true := h'
    simp [classN, hb, hl]
set_option maxRecDepth 100000 in
set_option maxHeartbeats 4000000 in
theorem RScan_c (s : ByteArray) (w : World) (hs : s.size ≤ 4096) : Calls Tryd.prog 19 #[.string s] w (ScanPost (scanL s.data.toList 0) w) := by
  generalize hR : scanL s.data.toList 0 = R
  have HR := hid hR
  clear hR
  go_enter Tryd.func19, Tryd.ntmps19
  go_wp2_with fail
  go_loopw [5, 6] (fun v i wr => ∃ (k : Nat) (acc : List Tok), k ≤ s.size ∧ i = .int .i64 (k : Int) ∧ acc.length ≤ k ∧ wr.ownsRow w.heap.size 54 4 v acc.length (toksCells acc) ∧ Hid (R = Sc.cons acc (scanL (s.data.toList.drop k) k)) ∧ Grow w wr) (fun _ i _ => s.size - (intOf i).toNat)
  case atStart => exact ⟨0, [], by omega, rfl, by simp, World.ownsRow_nil _ _ _ _, hid (by rw [List.drop_zero, scanL_self, HR.out]), Grow.refl _⟩
  case round =>
    obtain ⟨k, acc, hk, rfl, hacc, hown, HK, hg⟩ := hrel
    by_cases hlt : k < s.size
    · have hL := drop_at s k hlt
      by_cases b32 : (s[k]).toNat = 32
      · have HN := hid (show R = Sc.cons acc (scanL (s.data.toList.drop (k + 1)) (k + 1)) by rw [HK.out, hL, scanL_blank _ _ _ (by simp [isBl, b32])])
        have t32 : (((s[k]).toNat : Int) == 32) = true := by rw [b32]; rfl
        clear hL b32 HK
        go_wp2_with fail
        go_roundw
        case rel => exact ⟨k + 1, acc, by omega, by go_num, by omega, hown, HN, hg⟩
        case measure => simp [intOf]; omega
      by_cases b10 : (s[k]).toNat = 10
      · have HN := hid (show R = Sc.cons acc (scanL (s.data.toList.drop (k + 1)) (k + 1)) by rw [HK.out, hL, scanL_blank _ _ _ (by simp [isBl, b10])])
        have t32 : (((s[k]).toNat : Int) == 32) = false := by rw [b10]; rfl
        have t10 : (((s[k]).toNat : Int) == 10) = true := by rw [b10]; rfl
        clear hL b32 b10 HK
        go_wp2_with fail
        go_roundw
        case rel => exact ⟨k + 1, acc, by omega, by go_num, by omega, hown, HN, hg⟩
        case measure => simp [intOf]; omega
      have hb : isBl s[k] = false := by simp [isBl]; omega
      have t32 : (((s[k]).toNat : Int) == 32) = false := by simp; omega
      have t10 : (((s[k]).toNat : Int) == 10) = false := by simp; omega
      have K0 := fun w => class_c s k w (by omega) (by omega)
      have K1 := fun w => class_c s (k + 1) w (by omega) (by omega)
      have E1 := fun w => end_c s k 1 w (.inl rfl) (by omega) (by omega)
      have E2 := fun w => end_c s k 2 w (.inr rfl) (by omega) (by omega)
      have E3 := fun w => end_c s (k + 1) 2 w (.inr rfl) (by omega) (by omega)
      have MK := fun w => markAt_c s k w (by omega) hlt
      rw [show ((1 : Nat) : Int) = 1 from rfl, clsP1] at E1
      rw [show ((2 : Nat) : Int) = 2 from rfl, clsP2] at E2 E3
      rw [show ((k + 1 : Nat) : Int) = (k : Int) + 1 by omega] at K1 E3
      rw [← List.drop_drop] at K1 E3
      generalize hLL : s.data.toList.drop k = L at *
      have hne : L ≠ [] := by rw [hL]; simp
      have hdd : ∀ n, L.drop n = s.data.toList.drop (k + n) := fun n => by rw [← hLL, List.drop_drop]
      have hLl : L.length = s.size - k := by rw [← hLL]; simp
      by_cases hm : (s[k]).toNat = 45
      · by_cases hdg : 0 < digs (L.drop 1)
        · cases hv : valF ((L.drop 1).take (digs (L.drop 1))) 0 with
          | none =>
            have hw : ¬ 0 < lets L := by
              rw [lets_pos, hL]
              simp [isLet, hm]
            have hmn : minusN L = 1 := by unfold minusN; exact if_pos (by rw [hL]; exact hm)
            have hdm : digsM L = digs (L.drop 1) := by unfold digsM; rw [hmn]; try rfl
            have hall : ∀ b ∈ (L.drop 1).take (digs (L.drop 1)), isDig b = true := by unfold digs; rw [take_takeWhile]; exact all_takeWhile isDig _
            have hle := digs_le (L.drop 1)
            have hLl1 : (L.drop 1).length = s.size - (k + 1) := by rw [List.length_drop]; omega
            have hn0 : 0 < digsM L := by rw [hdm]; exact hdg
            have hst0 : stepT L = match valF ((L.drop 1).take (digs (L.drop 1))) 0 with | none => .bad 2 | some v => .tok 2 (1 + digs (L.drop 1)) (-(v : Int)) := by
              unfold stepT; rw [if_neg hw, if_pos hn0, hmn, hdm]; rfl
            have hse : (s.extract (k + 1) (k + 1 + digs (L.drop 1))).data.toList = (L.drop 1).take (digs (L.drop 1)) := by
              rw [sub_bytes, ← hLL, List.drop_drop]
            have hses : (s.extract (k + 1) (k + 1 + digs (L.drop 1))).size ≤ 140737488351232 := by rw [ByteArray.size_extract]; omega
            have C5 := value_c (s.extract (k + 1) (k + 1 + digs (L.drop 1)))
            rw [hse] at C5
            replace C5 := fun w => C5 w hses hall
            rw [hv] at hst0 C5
            have hst : stepT L = .bad 2 := hst0
            have HN := hid (show R = ⟨[], k, 2⟩ by
              rw [HK.out, scanL_stop hL hb hst, Sc.cons_err _ _ _ (by omega)])
            replace C5 := hid (show ∀ w, Calls Tryd.prog 35 #[.string (s.extract (k + 1) (k + 1 + digs (L.drop 1)))] w fun e w' => e = .returned (.int .i64 (-1)) ∧ w = w' from C5)
            rw [class2 hdg] at K1
            have KA := hid (show ∀ w, Calls Tryd.prog 33 #[.string s, .int .i64 ((k : Int) + 1)] w fun e w' => e = .returned (.int .i64 2) ∧ w = w' from K1)
            have EA := hid (show ∀ w, Calls Tryd.prog 34 #[.string s, .int .i64 ((k : Int) + 1), .int .i64 2] w fun e w' => e = .returned (.int .i64 ((k + 1 + digs (L.drop 1) : Nat) : Int)) ∧ w = w' from E3)
            have t45 : (((s[k]).toNat : Int) == 45) = true := by rw [hm]; rfl
            clear K0 K1 E1 E2 E3 MK hse hses hall hst0 hmn hdm hn0 hv hm hw hL b32 b10 hb hst hne HK hLL hdd
            generalize digs (L.drop 1) = d at *
            go_wp2_with fail
            refine (KA.out _).mono ?_
            rintro e w1 ⟨rfl, rfl⟩
            go_wp2_with fail
            refine (KA.out _).mono ?_
            rintro e w1 ⟨rfl, rfl⟩
            go_wp2_with fail
            refine (EA.out _).mono ?_
            rintro e w1 ⟨rfl, rfl⟩
            go_wp2_with fail
            refine (C5.out _).mono ?_
            rintro e w1 ⟨rfl, rfl⟩
            go_wp2_with fail
            go_ret3
            refine ⟨.slice none 0 0, ?_, ?_, hg⟩
            · rw [HN.out]; rfl
            · rw [HN.out]; exact Toks.nil _
          | some v =>
            have hw : ¬ 0 < lets L := by
              rw [lets_pos, hL]
              simp [isLet, hm]
            have hmn : minusN L = 1 := by unfold minusN; exact if_pos (by rw [hL]; exact hm)
            have hdm : digsM L = digs (L.drop 1) := by unfold digsM; rw [hmn]; try rfl
            have hall : ∀ b ∈ (L.drop 1).take (digs (L.drop 1)), isDig b = true := by unfold digs; rw [take_takeWhile]; exact all_takeWhile isDig _
            have hle := digs_le (L.drop 1)
            have hLl1 : (L.drop 1).length = s.size - (k + 1) := by rw [List.length_drop]; omega
            have hn0 : 0 < digsM L := by rw [hdm]; exact hdg
            have hst0 : stepT L = match valF ((L.drop 1).take (digs (L.drop 1))) 0 with | none => .bad 2 | some v => .tok 2 (1 + digs (L.drop 1)) (-(v : Int)) := by
              unfold stepT; rw [if_neg hw, if_pos hn0, hmn, hdm]; rfl
            have hse : (s.extract (k + 1) (k + 1 + digs (L.drop 1))).data.toList = (L.drop 1).take (digs (L.drop 1)) := by
              rw [sub_bytes, ← hLL, List.drop_drop]
            have hses : (s.extract (k + 1) (k + 1 + digs (L.drop 1))).size ≤ 140737488351232 := by rw [ByteArray.size_extract]; omega
            have C5 := value_c (s.extract (k + 1) (k + 1 + digs (L.drop 1)))
            rw [hse] at C5
            replace C5 := fun w => C5 w hses hall
            rw [hv] at hst0 C5
            have hst : stepT L = .tok 2 (1 + digs (L.drop 1)) (-(v : Int)) := hst0
            have HN := hid (show R = Sc.cons (acc ++ [⟨2, L.take (1 + digs (L.drop 1)), (-(v : Int)), k⟩]) (scanL (s.data.toList.drop (k + (1 + digs (L.drop 1)))) (k + (1 + digs (L.drop 1)))) by
              rw [HK.out, scanL_step hL hb hst, Sc.cons_cons, hdd (1 + digs (L.drop 1))])
            have hsub := hid (show s.extract k (k + 1 + digs (L.drop 1)) = ⟨(L.take (1 + digs (L.drop 1))).toArray⟩ by rw [show k + 1 + digs (L.drop 1) = k + (1 + digs (L.drop 1)) by omega, sub_bytes, hLL])
            have hvb := valF_le _ 0 v (by omega) hv
            replace C5 := hid (show ∀ w, Calls Tryd.prog 35 #[.string (s.extract (k + 1) (k + 1 + digs (L.drop 1)))] w fun e w' => e = .returned (.int .i64 (v : Int)) ∧ w = w' from C5)
            rw [class2 hdg] at K1
            have KA := hid (show ∀ w, Calls Tryd.prog 33 #[.string s, .int .i64 ((k : Int) + 1)] w fun e w' => e = .returned (.int .i64 2) ∧ w = w' from K1)
            have EA := hid (show ∀ w, Calls Tryd.prog 34 #[.string s, .int .i64 ((k : Int) + 1), .int .i64 2] w fun e w' => e = .returned (.int .i64 ((k + 1 + digs (L.drop 1) : Nat) : Int)) ∧ w = w' from E3)
            have t45 : (((s[k]).toNat : Int) == 45) = true := by rw [hm]; rfl
            clear K0 K1 E1 E2 E3 MK hse hses hall hst0 hmn hdm hn0 hv hm hw hL b32 b10 hb hst hne HK hLL hdd
            generalize digs (L.drop 1) = d at *
            go_wp2_with fail
            refine (KA.out _).mono ?_
            rintro e w1 ⟨rfl, rfl⟩
            go_wp2_with fail
            refine (KA.out _).mono ?_
            rintro e w1 ⟨rfl, rfl⟩
            go_wp2_with fail
            refine (EA.out _).mono ?_
            rintro e w1 ⟨rfl, rfl⟩
            go_wp2_with fail
            refine (C5.out _).mono ?_
            rintro e w1 ⟨rfl, rfl⟩
            go_wp2_with (at_builtin; go_loud (refine wpList_push rfl _ _ 48 rfl 54 (.agg #[.int .i64 0, .string ⟨#[]⟩, .int .i64 0, .int .i64 0]) 4 40 Tryd.underlying48 infoRTok rfl (by omega) w.heap.size _ acc.length _ rfl hown [_, _, _, _] rfl rfl (by simp [Value.oneCell']) (by unfold maxLen; omega) (by omega) hg.size ?_))
            intro v' w' ho hgr hs'
            simp only [hsub.out] at ho
            replace ho : w'.ownsRow w.heap.size 54 4 v' (acc.length + 1) (toksCells (acc ++ [⟨2, L.take (1 + d), (-(v : Int)), k⟩])) := by rw [← toksCells_snoc]; exact ho
            have hg2 : Grow w w' := Row.below hg hgr hg.size (fun k hk => (hown.lt k hk).1)
            clear hgr hs' hg hown
            go_wp2_with fail
            go_roundw
            case rel => exact ⟨k + (1 + d), acc ++ [⟨2, L.take (1 + d), (-(v : Int)), k⟩], by omega, by go_num, by rw [List.length_append]; simp only [List.length_singleton]; omega, by rw [List.length_append]; exact ho, HN, hg2⟩
            case measure => simp [intOf]; omega
        · have hw : ¬ 0 < lets L := by
            rw [lets_pos, hL]; simp [isLet, hm]
          have hmn : minusN L = 1 := by unfold minusN; exact if_pos (by rw [hL]; exact hm)
          have hdm : digsM L = digs (L.drop 1) := by unfold digsM; rw [hmn]; try rfl
          have hn0 : ¬ 0 < digsM L := by rw [hdm]; exact hdg
          have hmle := markN_le L
          have hd0 : ¬ 0 < digs L := by rw [digs_pos, hL]; simp [isDig, hm]
          rw [class0 hd0 hw] at K0
          have K1b : ∃ c : Int, (c == 2) = false ∧ ∀ w, Calls Tryd.prog 33 #[.string s, .int .i64 ((k : Int) + 1)] w fun e w' => e = .returned (.int .i64 c) ∧ w = w' := by
            rcases class01 hdg with hh | hh <;> rw [hh] at K1
            · exact ⟨0, rfl, K1⟩
            · exact ⟨1, rfl, K1⟩
          obtain ⟨c, hc, K1c⟩ := K1b
          have KB := hid K1c
          clear K1c
          have t45 : (((s[k]).toNat : Int) == 45) = true := by rw [hm]; rfl
          have hm0 : markN L = 0 := by have h45 : hd L = 45 := (by rw [hL]; exact hm); unfold markN; rw [h45]; simp
          clear hd0
          have KA := hid (show ∀ w, Calls Tryd.prog 33 #[.string s, .int .i64 (k : Int)] w fun e w' => e = .returned (.int .i64 0) ∧ w = w' from K0)
          have hst : stepT L = .bad 40 := by unfold stepT; rw [if_neg hw, if_neg hn0, if_neg (by omega)]
          have HN := hid (show R = ⟨[], k, 40⟩ by
            rw [HK.out, scanL_stop hL hb hst, Sc.cons_err _ _ _ (by omega)])
          rw [hm0] at MK
          have EM := hid (show ∀ w, Calls Tryd.prog 36 #[.string s, .int .i64 (k : Int)] w fun e w' => e = .returned (.int .i64 0) ∧ w = w' from MK)
          clear K0 K1 E1 E2 E3 MK hmn hdm hn0 hm hw hdg hm0 hL b32 b10 hb hst hne HK hLL hdd
          go_wp2_with fail
          refine (KB.out _).mono ?_
          rintro e w1 ⟨rfl, rfl⟩
          go_wp2_with fail
          refine (KA.out _).mono ?_
          rintro e w1 ⟨rfl, rfl⟩
          go_wp2_with fail
          refine (KA.out _).mono ?_
          rintro e w1 ⟨rfl, rfl⟩
          go_wp2_with fail
          refine (EM.out _).mono ?_
          rintro e w1 ⟨rfl, rfl⟩
          go_wp2_with fail
          go_ret3
          refine ⟨.slice none 0 0, ?_, ?_, hg⟩
          · rw [HN.out]; rfl
          · rw [HN.out]; exact Toks.nil _
      · by_cases hw : 0 < lets L
        · have hlet : isLet s[k] = true := by rw [lets_pos, hL] at hw; exact hw
          have t45 : (((s[k]).toNat : Int) == 45) = false := by simp [isLet] at hlet ⊢; omega
          have hst : stepT L = .tok 1 (lets L) 0 := by unfold stepT; rw [if_pos hw]
          have hle := lets_le L
          have HN := hid (show R = Sc.cons (acc ++ [⟨1, L.take (lets L), 0, k⟩]) (scanL (s.data.toList.drop (k + (lets L))) (k + (lets L))) by
            rw [HK.out, scanL_step hL hb hst, Sc.cons_cons, hdd (lets L)])
          have hsub := hid (show s.extract k (k + lets L) = ⟨(L.take (lets L)).toArray⟩ by rw [sub_bytes, hLL])
          rw [class1 hw] at K0
          have K0 := hid (show ∀ w, Calls Tryd.prog 33 #[.string s, .int .i64 (k : Int)] w fun e w' => e = .returned (.int .i64 1) ∧ w = w' from K0)
          have E1 := hid (show ∀ w, Calls Tryd.prog 34 #[.string s, .int .i64 (k : Int), .int .i64 1] w fun e w' => e = .returned (.int .i64 ((k + lets L : Nat) : Int)) ∧ w = w' from E1)
          clear K1 E2 E3 MK hlet hL b32 b10 hb hst hne HK hLL hdd
          generalize lets L = a at *
          go_wp2_with fail
          refine (K0.out _).mono ?_
          rintro e w1 ⟨rfl, rfl⟩
          go_wp2_with fail
          refine (K0.out _).mono ?_
          rintro e w1 ⟨rfl, rfl⟩
          go_wp2_with fail
          refine (E1.out _).mono ?_
          rintro e w1 ⟨rfl, rfl⟩
          go_wp2_with (at_builtin; go_loud (refine wpList_push rfl _ _ 48 rfl 54 (.agg #[.int .i64 0, .string ⟨#[]⟩, .int .i64 0, .int .i64 0]) 4 40 Tryd.underlying48 infoRTok rfl (by omega) w.heap.size _ acc.length _ rfl hown [_, _, _, _] rfl rfl (by simp [Value.oneCell']) (by unfold maxLen; omega) (by omega) hg.size ?_))
          intro v' w' ho hgr hs'
          simp only [hsub.out] at ho
          replace ho : w'.ownsRow w.heap.size 54 4 v' (acc.length + 1) (toksCells (acc ++ [⟨1, L.take a, 0, k⟩])) := by rw [← toksCells_snoc]; exact ho
          have hg2 : Grow w w' := Row.below hg hgr hg.size (fun k hk => (hown.lt k hk).1)
          clear hgr hs' hg hown
          go_wp2_with fail
          go_roundw
          case rel => exact ⟨k + a, acc ++ [⟨1, L.take a, 0, k⟩], by omega, by go_num, by rw [List.length_append]; simp only [List.length_singleton]; omega, by rw [List.length_append]; exact ho, HN, hg2⟩
          case measure => simp [intOf]; omega
        · have hwd := hw
          clear hw
          by_cases hdg : 0 < digs L
          · cases hv : valF (L.take (digs L)) 0 with
            | none =>
              have hw : ¬ 0 < lets L := by
                rw [lets_pos, hL]
                rw [digs_pos, hL] at hdg; simp only [List.headD_cons] at hdg ⊢; simp [isDig] at hdg; simp [isLet]; omega
              have hmn : minusN L = 0 := by unfold minusN; exact if_neg (by rw [hL]; exact hm)
              have hdm : digsM L = digs L := by unfold digsM; rw [hmn]; try rfl
              have hall : ∀ b ∈ L.take (digs L), isDig b = true := by unfold digs; rw [take_takeWhile]; exact all_takeWhile isDig _
              have hle := digs_le L
              have hn0 : 0 < digsM L := by rw [hdm]; exact hdg
              have hst0 : stepT L = match valF (L.take (digs L)) 0 with | none => .bad 2 | some v => .tok 2 (digs L) (v : Int) := by
                unfold stepT; rw [if_neg hw, if_pos hn0, hmn, hdm]; simp only [Nat.zero_add]; rfl
              have hse : (s.extract k (k + digs L)).data.toList = L.take (digs L) := by
                rw [sub_bytes, hLL]
              have hses : (s.extract k (k + digs L)).size ≤ 140737488351232 := by rw [ByteArray.size_extract]; omega
              have C5 := value_c (s.extract k (k + digs L))
              rw [hse] at C5
              replace C5 := fun w => C5 w hses hall
              rw [hv] at hst0 C5
              have hst : stepT L = .bad 2 := hst0
              have HN := hid (show R = ⟨[], k, 2⟩ by
                rw [HK.out, scanL_stop hL hb hst, Sc.cons_err _ _ _ (by omega)])
              replace C5 := hid (show ∀ w, Calls Tryd.prog 35 #[.string (s.extract k (k + digs L))] w fun e w' => e = .returned (.int .i64 (-1)) ∧ w = w' from C5)
              rw [class2 hdg] at K0
              have KA := hid (show ∀ w, Calls Tryd.prog 33 #[.string s, .int .i64 (k : Int)] w fun e w' => e = .returned (.int .i64 2) ∧ w = w' from K0)
              have EA := hid (show ∀ w, Calls Tryd.prog 34 #[.string s, .int .i64 (k : Int), .int .i64 2] w fun e w' => e = .returned (.int .i64 ((k + digs L : Nat) : Int)) ∧ w = w' from E2)
              have t45 : (((s[k]).toNat : Int) == 45) = false := by simp; omega
              clear K0 K1 E1 E2 E3 MK hse hses hall hst0 hmn hdm hn0 hv hm hw hL b32 b10 hb hst hne HK hLL hdd
              generalize digs L = d at *
              go_wp2_with fail
              refine (KA.out _).mono ?_
              rintro e w1 ⟨rfl, rfl⟩
              go_wp2_with fail
              refine (EA.out _).mono ?_
              rintro e w1 ⟨rfl, rfl⟩
              go_wp2_with fail
              refine (C5.out _).mono ?_
              rintro e w1 ⟨rfl, rfl⟩
              go_wp2_with fail
              go_ret3
              refine ⟨.slice none 0 0, ?_, ?_, hg⟩
              · rw [HN.out]; rfl
              · rw [HN.out]; exact Toks.nil _
            | some v =>
              have hw : ¬ 0 < lets L := by
                rw [lets_pos, hL]
                rw [digs_pos, hL] at hdg; simp only [List.headD_cons] at hdg ⊢; simp [isDig] at hdg; simp [isLet]; omega
              have hmn : minusN L = 0 := by unfold minusN; exact if_neg (by rw [hL]; exact hm)
              have hdm : digsM L = digs L := by unfold digsM; rw [hmn]; try rfl
              have hall : ∀ b ∈ L.take (digs L), isDig b = true := by unfold digs; rw [take_takeWhile]; exact all_takeWhile isDig _
              have hle := digs_le L
              have hn0 : 0 < digsM L := by rw [hdm]; exact hdg
              have hst0 : stepT L = match valF (L.take (digs L)) 0 with | none => .bad 2 | some v => .tok 2 (digs L) (v : Int) := by
                unfold stepT; rw [if_neg hw, if_pos hn0, hmn, hdm]; simp only [Nat.zero_add]; rfl
              have hse : (s.extract k (k + digs L)).data.toList = L.take (digs L) := by
                rw [sub_bytes, hLL]
              have hses : (s.extract k (k + digs L)).size ≤ 140737488351232 := by rw [ByteArray.size_extract]; omega
              have C5 := value_c (s.extract k (k + digs L))
              rw [hse] at C5
              replace C5 := fun w => C5 w hses hall
              rw [hv] at hst0 C5
              have hst : stepT L = .tok 2 (digs L) (v : Int) := hst0
              have HN := hid (show R = Sc.cons (acc ++ [⟨2, L.take (digs L), (v : Int), k⟩]) (scanL (s.data.toList.drop (k + (digs L))) (k + (digs L))) by
                rw [HK.out, scanL_step hL hb hst, Sc.cons_cons, hdd (digs L)])
              have hsub := hid (show s.extract k (k + digs L) = ⟨(L.take (digs L)).toArray⟩ by rw [show k + digs L = k + digs L from rfl, sub_bytes, hLL])
              have hvb := valF_le _ 0 v (by omega) hv
              replace C5 := hid (show ∀ w, Calls Tryd.prog 35 #[.string (s.extract k (k + digs L))] w fun e w' => e = .returned (.int .i64 (v : Int)) ∧ w = w' from C5)
              rw [class2 hdg] at K0
              have KA := hid (show ∀ w, Calls Tryd.prog 33 #[.string s, .int .i64 (k : Int)] w fun e w' => e = .returned (.int .i64 2) ∧ w = w' from K0)
              have EA := hid (show ∀ w, Calls Tryd.prog 34 #[.string s, .int .i64 (k : Int), .int .i64 2] w fun e w' => e = .returned (.int .i64 ((k + digs L : Nat) : Int)) ∧ w = w' from E2)
              have t45 : (((s[k]).toNat : Int) == 45) = false := by simp; omega
              clear K0 K1 E1 E2 E3 MK hse hses hall hst0 hmn hdm hn0 hv hm hw hL b32 b10 hb hst hne HK hLL hdd
              generalize digs L = d at *
              go_wp2_with fail
              refine (KA.out _).mono ?_
              rintro e w1 ⟨rfl, rfl⟩
              go_wp2_with fail
              refine (EA.out _).mono ?_
              rintro e w1 ⟨rfl, rfl⟩
              go_wp2_with fail
              refine (C5.out _).mono ?_
              rintro e w1 ⟨rfl, rfl⟩
              go_wp2_with (at_builtin; go_loud (refine wpList_push rfl _ _ 48 rfl 54 (.agg #[.int .i64 0, .string ⟨#[]⟩, .int .i64 0, .int .i64 0]) 4 40 Tryd.underlying48 infoRTok rfl (by omega) w.heap.size _ acc.length _ rfl hown [_, _, _, _] rfl rfl (by simp [Value.oneCell']) (by unfold maxLen; omega) (by omega) hg.size ?_))
              intro v' w' ho hgr hs'
              simp only [hsub.out] at ho
              replace ho : w'.ownsRow w.heap.size 54 4 v' (acc.length + 1) (toksCells (acc ++ [⟨2, L.take d, (v : Int), k⟩])) := by rw [← toksCells_snoc]; exact ho
              have hg2 : Grow w w' := Row.below hg hgr hg.size (fun k hk => (hown.lt k hk).1)
              clear hgr hs' hg hown
              go_wp2_with fail
              go_roundw
              case rel => exact ⟨k + d, acc ++ [⟨2, L.take d, (v : Int), k⟩], by omega, by go_num, by rw [List.length_append]; simp only [List.length_singleton]; omega, by rw [List.length_append]; exact ho, HN, hg2⟩
              case measure => simp [intOf]; omega
          · by_cases hmk : 0 < markN L
            · have hw : ¬ 0 < lets L := by
                exact hwd
              have hmn : minusN L = 0 := by unfold minusN; exact if_neg (by rw [hL]; exact hm)
              have hdm : digsM L = digs L := by unfold digsM; rw [hmn]; try rfl
              have hn0 : ¬ 0 < digsM L := by rw [hdm]; exact hdg
              have hmle := markN_le L
              rw [class0 hdg hw] at K0
              have t45 : (((s[k]).toNat : Int) == 45) = false := by simp; omega
              have KA := hid (show ∀ w, Calls Tryd.prog 33 #[.string s, .int .i64 (k : Int)] w fun e w' => e = .returned (.int .i64 0) ∧ w = w' from K0)
              have hst : stepT L = .tok 3 (markN L) 0 := by unfold stepT; rw [if_neg hw, if_neg hn0, if_pos hmk]
              have HN := hid (show R = Sc.cons (acc ++ [⟨3, L.take (markN L), 0, k⟩]) (scanL (s.data.toList.drop (k + (markN L))) (k + (markN L))) by
                rw [HK.out, scanL_step hL hb hst, Sc.cons_cons, hdd (markN L)])
              have hsub := hid (show s.extract k (k + markN L) = ⟨(L.take (markN L)).toArray⟩ by rw [sub_bytes, hLL])
              have EM := hid (show ∀ w, Calls Tryd.prog 36 #[.string s, .int .i64 (k : Int)] w fun e w' => e = .returned (.int .i64 (markN L : Int)) ∧ w = w' from MK)
              clear K0 K1 E1 E2 E3 MK hmn hdm hn0 hm hw hdg hL b32 b10 hb hst hne HK hLL hdd
              generalize markN L = q at *
              go_wp2_with fail
              refine (KA.out _).mono ?_
              rintro e w1 ⟨rfl, rfl⟩
              go_wp2_with fail
              refine (KA.out _).mono ?_
              rintro e w1 ⟨rfl, rfl⟩
              go_wp2_with fail
              refine (EM.out _).mono ?_
              rintro e w1 ⟨rfl, rfl⟩
              go_wp2_with fail
              refine (EM.out _).mono ?_
              rintro e w1 ⟨rfl, rfl⟩
              go_wp2_with (at_builtin; go_loud (refine wpList_push rfl _ _ 48 rfl 54 (.agg #[.int .i64 0, .string ⟨#[]⟩, .int .i64 0, .int .i64 0]) 4 40 Tryd.underlying48 infoRTok rfl (by omega) w.heap.size _ acc.length _ rfl hown [_, _, _, _] rfl rfl (by simp [Value.oneCell']) (by unfold maxLen; omega) (by omega) hg.size ?_))
              intro v' w' ho hgr hs'
              simp only [hsub.out] at ho
              replace ho : w'.ownsRow w.heap.size 54 4 v' (acc.length + 1) (toksCells (acc ++ [⟨3, L.take q, 0, k⟩])) := by rw [← toksCells_snoc]; exact ho
              have hg2 : Grow w w' := Row.below hg hgr hg.size (fun k hk => (hown.lt k hk).1)
              clear hgr hs' hg hown
              go_wp2_with fail
              go_roundw
              case rel => exact ⟨k + q, acc ++ [⟨3, L.take q, 0, k⟩], by omega, by go_num, by rw [List.length_append]; simp only [List.length_singleton]; omega, by rw [List.length_append]; exact ho, HN, hg2⟩
              case measure => simp [intOf]; omega
            · have hw : ¬ 0 < lets L := by
                exact hwd
              have hmn : minusN L = 0 := by unfold minusN; exact if_neg (by rw [hL]; exact hm)
              have hdm : digsM L = digs L := by unfold digsM; rw [hmn]; try rfl
              have hn0 : ¬ 0 < digsM L := by rw [hdm]; exact hdg
              have hmle := markN_le L
              rw [class0 hdg hw] at K0
              have t45 : (((s[k]).toNat : Int) == 45) = false := by simp; omega
              have hm0 : markN L = 0 := by omega
              have KA := hid (show ∀ w, Calls Tryd.prog 33 #[.string s, .int .i64 (k : Int)] w fun e w' => e = .returned (.int .i64 0) ∧ w = w' from K0)
              have hst : stepT L = .bad 40 := by unfold stepT; rw [if_neg hw, if_neg hn0, if_neg (by omega)]
              have HN := hid (show R = ⟨[], k, 40⟩ by
                rw [HK.out, scanL_stop hL hb hst, Sc.cons_err _ _ _ (by omega)])
              rw [hm0] at MK
              have EM := hid (show ∀ w, Calls Tryd.prog 36 #[.string s, .int .i64 (k : Int)] w fun e w' => e = .returned (.int .i64 0) ∧ w = w' from MK)
              clear K0 K1 E1 E2 E3 MK hmn hdm hn0 hm hw hdg hm0 hL b32 b10 hb hst hne HK hLL hdd
              go_wp2_with fail
              refine (KA.out _).mono ?_
              rintro e w1 ⟨rfl, rfl⟩
              go_wp2_with fail
              refine (KA.out _).mono ?_
              rintro e w1 ⟨rfl, rfl⟩
              go_wp2_with fail
              refine (EM.out _).mono ?_
              rintro e w1 ⟨rfl, rfl⟩
              go_wp2_with fail
              go_ret3
              refine ⟨.slice none 0 0, ?_, ?_, hg⟩
              · rw [HN.out]; rfl
              · rw [HN.out]; exact Toks.nil _
    · obtain rfl : k = s.size := by omega
      have HN := hid (show R = ⟨acc, s.size, 0⟩ by rw [HK.out, List.drop_eq_nil_of_le (by simp), scanL_nil, Sc.cons_nil])
      have hT := hid (Toks.of_own hown rfl (by omega))
      clear hown HK
      go_wp2_with fail
      go_ret3
      rw [HN.out]
      exact ⟨_, rfl, hT.out, hg⟩
end Go.Proofs.YteilkcdbdpkbfaaDoor
