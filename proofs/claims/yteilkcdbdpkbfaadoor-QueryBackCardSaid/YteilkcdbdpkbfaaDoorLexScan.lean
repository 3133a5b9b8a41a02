/- What lex.Scan computes. -/
import Derived.Test.YteilkcdbdpkbfaaDoorLexToks
import Derived.Test.YteilkcdbdpkbfaaDoorPush
import Derived.Outline
import Derived.RegionTactic
namespace Go.Proofs.YteilkcdbdpkbfaaDoor
open Go.RowKit
set_option linter.unusedVariables false
set_option linter.unusedSimpArgs false
theorem infoTok : Info Tryd.prog 78 (.agg #[.int .i64 0, .string ⟨#[]⟩, .int .i64 0, .int .i64 0]) 4 40 := by unfold Info; kernel_rfl
attribute [local go_sem ↓ high] setCell_twice
set_option maxRecDepth 100000 in
set_option maxHeartbeats 4000000 in
theorem Scan_c (s : ByteArray) (w : World) (hs : s.size ≤ 4096) : Calls Tryd.prog 25 #[.string s] w (ScanPost (scanL s.data.toList 0) w) := by
  generalize hR : scanL s.data.toList 0 = R
  have HR := hid hR
  clear hR
  go_enter Tryd.func25, Tryd.ntmps25
  go_wp2_with fail
  go_loopw [5, 6] (fun v i wr => ∃ (k : Nat) (acc : List Tok), k ≤ s.size ∧ i = .int .i64 (k : Int) ∧ acc.length ≤ k ∧ wr.ownsRow w.heap.size 78 4 v acc.length (toksCells acc) ∧ Hid (R = Sc.cons acc (scanL (s.data.toList.drop k) k)) ∧ Grow w wr) (fun _ i _ => s.size - (intOf i).toNat)
  case atStart => exact ⟨0, [], by omega, rfl, by simp, World.ownsRow_nil _ _ _ _, hid (by rw [List.drop_zero, scanL_self, HR.out]), Grow.refl _⟩
  case round =>
    obtain ⟨k, acc, hk, rfl, hacc, hown, HK, hg⟩ := hrel
    by_cases hlt : k < s.size
    · have hL := drop_at s k hlt
      have hX := rest_bytes s k
      have hXs : (s.extract k s.size).size = s.size - k := by rw [ByteArray.size_extract]; omega
      by_cases b32 : (s[k]).toNat = 32
      · have HN := hid (show R = Sc.cons acc (scanL (s.data.toList.drop (k + 1)) (k + 1)) by rw [HK.out, hL, scanL_blank _ _ _ (by simp [isBl, b32])])
        have t32 : (((s[k]).toNat : Int) == 32) = true := by rw [b32]; rfl
        clear hL hX b32 HK hXs
        go_wp2_with fail
        go_roundw
        case rel => exact ⟨k + 1, acc, by omega, by go_num, by omega, hown, HN, hg⟩
        case measure => simp [intOf]; omega
      by_cases b10 : (s[k]).toNat = 10
      · have HN := hid (show R = Sc.cons acc (scanL (s.data.toList.drop (k + 1)) (k + 1)) by rw [HK.out, hL, scanL_blank _ _ _ (by simp [isBl, b10])])
        have t32 : (((s[k]).toNat : Int) == 32) = false := by rw [b10]; rfl
        have t10 : (((s[k]).toNat : Int) == 10) = true := by rw [b10]; rfl
        clear hL hX b32 b10 HK hXs
        go_wp2_with fail
        go_roundw
        case rel => exact ⟨k + 1, acc, by omega, by go_num, by omega, hown, HN, hg⟩
        case measure => simp [intOf]; omega
      have hb : isBl s[k] = false := by simp [isBl]; omega
      have t32 : (((s[k]).toNat : Int) == 32) = false := by simp; omega
      have t10 : (((s[k]).toNat : Int) == 10) = false := by simp; omega
      have C1 := run_letter (s.extract k s.size)
      have C4 := mark_c (s.extract k s.size)
      rw [hX] at C1 C4
      have D0 := run_digit (s.extract k s.size)
      rw [hX] at D0
      generalize hLL : s.data.toList.drop k = L at *
      replace C1 := hid (fun w => C1 w (by omega))
      replace C4 := hid (fun w => C4 w (by omega) (by omega))
      replace D0 := hid (fun w => D0 w (by omega))
      have hne : L ≠ [] := by rw [hL]; simp
      have hdd : ∀ n, L.drop n = s.data.toList.drop (k + n) := fun n => by rw [← hLL, List.drop_drop]
      by_cases hw : 0 < lets L
      · have hlet : isLet s[k] = true := by rw [lets_pos, hL] at hw; exact hw
        have t45 : (((s[k]).toNat : Int) == 45) = false := by simp [isLet] at hlet ⊢; omega
        have hst : stepT L = .tok 1 (lets L) 0 := by unfold stepT; rw [if_pos hw]
        have hle := lets_le L
        have hLl : L.length = s.size - k := by rw [← hLL]; simp
        have HN := hid (show R = Sc.cons (acc ++ [⟨1, L.take (lets L), 0, k⟩]) (scanL (s.data.toList.drop (k + lets L)) (k + lets L)) by
          rw [HK.out, scanL_step hL hb hst, Sc.cons_cons, hdd (lets L)])
        have hsub := hid (show s.extract k (k + lets L) = ⟨(L.take (lets L)).toArray⟩ by rw [sub_bytes, hLL])
        have C2 := D0
        have hw' : (0 : Int) < (lets L : Int) := by omega
        replace C1 := hid (show ∀ w, Calls Tryd.prog 39 #[.string (s.extract k s.size), .func (.func 40) #[] #[]] w fun e w' => e = .returned (.int .i64 (lets L : Int)) ∧ w = w' from C1.out)
        clear D0 hL hX hXs b32 b10 hb hlet hst hne HK hLL hdd
        generalize lets L = a at *
        go_wp2_with fail
        refine (C1.out _).mono ?_
        rintro e w1 ⟨rfl, rfl⟩
        go_wp2_with fail
        refine (C2.out _).mono ?_
        rintro e w1 ⟨rfl, rfl⟩
        go_wp2_with fail
        refine (C4.out _).mono ?_
        rintro e w4 ⟨rfl, b4⟩
        have ho : w4.heap[wr.heap.size]? = some (.cells #[.int .i64 0, .string ⟨#[]⟩, .int .i64 0, .int .i64 (k : Int)] 78 (0, 0)) := b4.heap (heap_new wr (.cells #[.int .i64 0, .string ⟨#[]⟩, .int .i64 0, .int .i64 (k : Int)] 78))
        have g4 : Grow wr w4 := Grow.trans (Grow.alloc _ _) b4
        have c0 : w4.cell? ⟨wr.heap.size, 0, none⟩ = some (.int .i64 0) := by rw [heap_cell ho]; rfl
        have c1 : w4.cell? ⟨wr.heap.size, 1, none⟩ = some (.string ⟨#[]⟩) := by rw [heap_cell ho]; rfl
        have c2 : w4.cell? ⟨wr.heap.size, 2, none⟩ = some (.int .i64 0) := by rw [heap_cell ho]; rfl
        have c3 : w4.cell? ⟨wr.heap.size, 3, none⟩ = some (.int .i64 (k : Int)) := by rw [heap_cell ho]; rfl
        have f0 : w4.frozen? ⟨wr.heap.size, 0, none⟩ = false := heap_frozen ho 0 (by omega)
        have f1 : w4.frozen? ⟨wr.heap.size, 1, none⟩ = false := heap_frozen ho 1 (by omega)
        have f2 : w4.frozen? ⟨wr.heap.size, 2, none⟩ = false := heap_frozen ho 2 (by omega)
        clear ho b4
        go_wp2_with fail
        go_region
        all_goals
          go_wp2_with (at_builtin; go_loud ((try rw [alloc_drew]); refine wpList_pushH w4.heap.size (by simp) rfl _ _ 60 rfl 78 (.agg #[.int .i64 0, .string ⟨#[]⟩, .int .i64 0, .int .i64 0]) 4 40 Tryd.underlying60 infoTok rfl (by omega) w.heap.size _ acc.length _ rfl (own_grow hown (by first | exact g4 | (repeat' (first | exact g4 | refine Grow.set ?_ _ _ (Nat.le_refl _) _ | refine Grow.drewR ?_)))) [_, _, _, _] rfl rfl (by simp [Value.oneCell']) (by unfold maxLen; omega) (by omega) (Nat.le_trans hg.size (Below.size (show Grow wr _ from by repeat' (first | exact g4 | refine Grow.set ?_ _ _ (Nat.le_refl _) _ | refine Grow.drewR ?_)))) ?_))
          intro v' w' ho hgr hs'
          simp only [hsub.out] at ho
          replace ho : w'.ownsRow w.heap.size 78 4 v' (acc.length + 1) (toksCells (acc ++ [⟨1, L.take a, 0, k⟩])) := by rw [← toksCells_snoc]; exact ho
          have hg2 : Grow w w' := Row.below (Grow.trans hg (show Grow wr _ from by repeat' (first | exact g4 | refine Grow.set ?_ _ _ (Nat.le_refl _) _ | refine Grow.drewR ?_))) hgr (Nat.le_trans hg.size (Below.size (show Grow wr _ from by repeat' (first | exact g4 | refine Grow.set ?_ _ _ (Nat.le_refl _) _ | refine Grow.drewR ?_)))) (fun k hk => (hown.lt k hk).1)
          clear hgr hs' g4 hg hown c0 c1 c2 c3 f0 f1 f2
          go_wp2_with fail
          go_roundw
          case rel => exact ⟨k + a, acc ++ [⟨1, L.take a, 0, k⟩], by omega, by go_num, by rw [List.length_append]; simp only [List.length_singleton]; omega, by rw [List.length_append]; exact ho, HN, hg2⟩
          case measure => simp [intOf]; omega
      · have C1z : ∀ w, Calls Tryd.prog 39 #[.string (s.extract k s.size), .func (.func 40) #[] #[]] w fun e w' => e = .returned (.int .i64 0) ∧ w = w' := fun w => by
          have := C1.out w
          rw [show (L.takeWhile isLet).length = 0 from Nat.eq_zero_of_not_pos hw] at this
          exact this
        replace C1 := hid C1z
        clear C1z
        by_cases hm : (s[k]).toNat = 45
        · by_cases hdg : 0 < digs (L.drop 1)
          · cases hv : valF ((L.drop 1).take (digs (L.drop 1))) 0 with
            | none =>
              have hmn : minusN L = 1 := by unfold minusN; exact if_pos (by rw [hL]; exact hm)
              have hdm : digsM L = digs (L.drop 1) := by unfold digsM; rw [hmn]; try rfl
              have hall : ∀ b ∈ (L.drop 1).take (digs (L.drop 1)), isDig b = true := by unfold digs; rw [take_takeWhile]; exact all_takeWhile isDig _
              have hle := digs_le (L.drop 1)
              have hLl : L.length = s.size - k := by rw [← hLL]; simp
              have hLl1 : (L.drop 1).length = s.size - (k + 1) := by rw [List.length_drop]; omega
              have hn0 : 0 < digsM L := by rw [hdm]; exact hdg
              have hst0 : stepT L = match valF ((L.drop 1).take (digs (L.drop 1))) 0 with | none => .bad 2 | some v => .tok 2 (1 + digs (L.drop 1)) (-(v : Int)) := by
                unfold stepT; rw [if_neg hw, if_pos hn0, hmn, hdm]; rfl
              have hse : (s.extract (k + 1) (k + (1 + digs (L.drop 1)))).data.toList = (L.drop 1).take (digs (L.drop 1)) := by
                rw [show k + (1 + digs (L.drop 1)) = (k + 1) + digs (L.drop 1) by omega, sub_bytes, ← hLL, List.drop_drop]
              have hses : (s.extract (k + 1) (k + (1 + digs (L.drop 1)))).size ≤ 140737488351232 := by rw [ByteArray.size_extract]; omega
              have C5 := number_c (s.extract (k + 1) (k + (1 + digs (L.drop 1))))
              rw [hse] at C5
              replace C5 := fun w => C5 w hses hall
              rw [hv] at hst0 C5
              have hst : stepT L = .bad 2 := hst0
              have HN := hid (show R = ⟨[], k, 2⟩ by
                rw [HK.out, scanL_stop hL hb hst, Sc.cons_err _ _ _ (by omega)])
              replace C5 := hid (show ∀ w, Calls Tryd.prog 43 #[.string (s.extract (k + 1) (k + (1 + digs (L.drop 1))))] w fun e w' => e = .returned (.tuple #[.int .i64 0, .bool false]) ∧ w = w' from C5)
              have hX1 := rest_bytes s (k + 1)
              have D1 := run_digit (s.extract (k + 1) s.size)
              rw [hX1, ← List.drop_drop, hLL] at D1
              have C2 := hid (show ∀ w, Calls Tryd.prog 39 #[.string (s.extract (k + 1) s.size), .func (.func 41) #[] #[]] w fun e w' => e = .returned (.int .i64 (digs (L.drop 1) : Int)) ∧ w = w' from fun w => D1 w (by rw [ByteArray.size_extract]; omega))
              clear D1 hX1
              have t45 : (((s[k]).toNat : Int) == 45) = true := by rw [hm]; rfl
              clear hse hses hall hst0 hmn hdm hn0 D0 hL hX hXs b32 b10 hb hst hne HK hLL hdd hv hm hw
              generalize digs (L.drop 1) = d at *
              have hdg' : (0 : Int) < (d : Int) := by omega
              go_wp2_with fail
              refine (C1.out _).mono ?_
              rintro e w1 ⟨rfl, rfl⟩
              go_wp2_with fail
              refine (C2.out _).mono ?_
              rintro e w1 ⟨rfl, rfl⟩
              go_wp2_with fail
              refine (C4.out _).mono ?_
              rintro e w4 ⟨rfl, b4⟩
              have ho : w4.heap[wr.heap.size]? = some (.cells #[.int .i64 0, .string ⟨#[]⟩, .int .i64 0, .int .i64 (k : Int)] 78 (0, 0)) := b4.heap (heap_new wr (.cells #[.int .i64 0, .string ⟨#[]⟩, .int .i64 0, .int .i64 (k : Int)] 78))
              have g4 : Grow wr w4 := Grow.trans (Grow.alloc _ _) b4
              have c0 : w4.cell? ⟨wr.heap.size, 0, none⟩ = some (.int .i64 0) := by rw [heap_cell ho]; rfl
              have c1 : w4.cell? ⟨wr.heap.size, 1, none⟩ = some (.string ⟨#[]⟩) := by rw [heap_cell ho]; rfl
              have c2 : w4.cell? ⟨wr.heap.size, 2, none⟩ = some (.int .i64 0) := by rw [heap_cell ho]; rfl
              have c3 : w4.cell? ⟨wr.heap.size, 3, none⟩ = some (.int .i64 (k : Int)) := by rw [heap_cell ho]; rfl
              have f0 : w4.frozen? ⟨wr.heap.size, 0, none⟩ = false := heap_frozen ho 0 (by omega)
              have f1 : w4.frozen? ⟨wr.heap.size, 1, none⟩ = false := heap_frozen ho 1 (by omega)
              have f2 : w4.frozen? ⟨wr.heap.size, 2, none⟩ = false := heap_frozen ho 2 (by omega)
              clear ho b4
              go_wp2_with fail
              refine (C5.out _).mono ?_
              rintro e w5 ⟨rfl, rfl⟩
              go_wp2_with fail
              go_ret3
              refine ⟨.slice none 0 0, ?_, ?_, Grow.trans hg (show Grow wr _ from by repeat' (first | exact g4 | refine Grow.set ?_ _ _ (Nat.le_refl _) _ | refine Grow.drewR ?_))⟩
              · rw [HN.out]; rfl
              · rw [HN.out]; exact Toks.nil _
            | some v =>
              have hmn : minusN L = 1 := by unfold minusN; exact if_pos (by rw [hL]; exact hm)
              have hdm : digsM L = digs (L.drop 1) := by unfold digsM; rw [hmn]; try rfl
              have hall : ∀ b ∈ (L.drop 1).take (digs (L.drop 1)), isDig b = true := by unfold digs; rw [take_takeWhile]; exact all_takeWhile isDig _
              have hle := digs_le (L.drop 1)
              have hLl : L.length = s.size - k := by rw [← hLL]; simp
              have hLl1 : (L.drop 1).length = s.size - (k + 1) := by rw [List.length_drop]; omega
              have hn0 : 0 < digsM L := by rw [hdm]; exact hdg
              have hst0 : stepT L = match valF ((L.drop 1).take (digs (L.drop 1))) 0 with | none => .bad 2 | some v => .tok 2 (1 + digs (L.drop 1)) (-(v : Int)) := by
                unfold stepT; rw [if_neg hw, if_pos hn0, hmn, hdm]; rfl
              have hse : (s.extract (k + 1) (k + (1 + digs (L.drop 1)))).data.toList = (L.drop 1).take (digs (L.drop 1)) := by
                rw [show k + (1 + digs (L.drop 1)) = (k + 1) + digs (L.drop 1) by omega, sub_bytes, ← hLL, List.drop_drop]
              have hses : (s.extract (k + 1) (k + (1 + digs (L.drop 1)))).size ≤ 140737488351232 := by rw [ByteArray.size_extract]; omega
              have C5 := number_c (s.extract (k + 1) (k + (1 + digs (L.drop 1))))
              rw [hse] at C5
              replace C5 := fun w => C5 w hses hall
              rw [hv] at hst0 C5
              have hst : stepT L = .tok 2 (1 + digs (L.drop 1)) (-(v : Int)) := hst0
              have HN := hid (show R = Sc.cons (acc ++ [⟨2, L.take (1 + digs (L.drop 1)), (-(v : Int)), k⟩]) (scanL (s.data.toList.drop (k + (1 + digs (L.drop 1)))) (k + (1 + digs (L.drop 1)))) by
                rw [HK.out, scanL_step hL hb hst, Sc.cons_cons, hdd (1 + digs (L.drop 1))])
              have hsub := hid (show s.extract k (k + (1 + digs (L.drop 1))) = ⟨(L.take (1 + digs (L.drop 1))).toArray⟩ by rw [sub_bytes, hLL])
              have hvb := valF_le _ 0 v (by omega) hv
              replace C5 := hid (show ∀ w, Calls Tryd.prog 43 #[.string (s.extract (k + 1) (k + (1 + digs (L.drop 1))))] w fun e w' => e = .returned (.tuple #[.int .i64 (v : Int), .bool true]) ∧ w = w' from C5)
              have hX1 := rest_bytes s (k + 1)
              have D1 := run_digit (s.extract (k + 1) s.size)
              rw [hX1, ← List.drop_drop, hLL] at D1
              have C2 := hid (show ∀ w, Calls Tryd.prog 39 #[.string (s.extract (k + 1) s.size), .func (.func 41) #[] #[]] w fun e w' => e = .returned (.int .i64 (digs (L.drop 1) : Int)) ∧ w = w' from fun w => D1 w (by rw [ByteArray.size_extract]; omega))
              clear D1 hX1
              have t45 : (((s[k]).toNat : Int) == 45) = true := by rw [hm]; rfl
              clear hse hses hall hst0 hmn hdm hn0 D0 hL hX hXs b32 b10 hb hst hne HK hLL hdd hv hm hw
              generalize digs (L.drop 1) = d at *
              have hdg' : (0 : Int) < (d : Int) := by omega
              go_wp2_with fail
              refine (C1.out _).mono ?_
              rintro e w1 ⟨rfl, rfl⟩
              go_wp2_with fail
              refine (C2.out _).mono ?_
              rintro e w1 ⟨rfl, rfl⟩
              go_wp2_with fail
              refine (C4.out _).mono ?_
              rintro e w4 ⟨rfl, b4⟩
              have ho : w4.heap[wr.heap.size]? = some (.cells #[.int .i64 0, .string ⟨#[]⟩, .int .i64 0, .int .i64 (k : Int)] 78 (0, 0)) := b4.heap (heap_new wr (.cells #[.int .i64 0, .string ⟨#[]⟩, .int .i64 0, .int .i64 (k : Int)] 78))
              have g4 : Grow wr w4 := Grow.trans (Grow.alloc _ _) b4
              have c0 : w4.cell? ⟨wr.heap.size, 0, none⟩ = some (.int .i64 0) := by rw [heap_cell ho]; rfl
              have c1 : w4.cell? ⟨wr.heap.size, 1, none⟩ = some (.string ⟨#[]⟩) := by rw [heap_cell ho]; rfl
              have c2 : w4.cell? ⟨wr.heap.size, 2, none⟩ = some (.int .i64 0) := by rw [heap_cell ho]; rfl
              have c3 : w4.cell? ⟨wr.heap.size, 3, none⟩ = some (.int .i64 (k : Int)) := by rw [heap_cell ho]; rfl
              have f0 : w4.frozen? ⟨wr.heap.size, 0, none⟩ = false := heap_frozen ho 0 (by omega)
              have f1 : w4.frozen? ⟨wr.heap.size, 1, none⟩ = false := heap_frozen ho 1 (by omega)
              have f2 : w4.frozen? ⟨wr.heap.size, 2, none⟩ = false := heap_frozen ho 2 (by omega)
              clear ho b4
              go_wp2_with fail
              refine (C5.out _).mono ?_
              rintro e w5 ⟨rfl, rfl⟩
              go_wp2_with (at_builtin; go_loud ((try rw [alloc_drew]); refine wpList_pushH w4.heap.size (by simp) rfl _ _ 60 rfl 78 (.agg #[.int .i64 0, .string ⟨#[]⟩, .int .i64 0, .int .i64 0]) 4 40 Tryd.underlying60 infoTok rfl (by omega) w.heap.size _ acc.length _ rfl (own_grow hown (by first | exact g4 | (repeat' (first | exact g4 | refine Grow.set ?_ _ _ (Nat.le_refl _) _ | refine Grow.drewR ?_)))) [_, _, _, _] rfl rfl (by simp [Value.oneCell']) (by unfold maxLen; omega) (by omega) (Nat.le_trans hg.size (Below.size (show Grow wr _ from by repeat' (first | exact g4 | refine Grow.set ?_ _ _ (Nat.le_refl _) _ | refine Grow.drewR ?_)))) ?_))
              intro v' w' ho hgr hs'
              simp only [hsub.out] at ho
              replace ho : w'.ownsRow w.heap.size 78 4 v' (acc.length + 1) (toksCells (acc ++ [⟨2, L.take (1 + d), (-(v : Int)), k⟩])) := by rw [← toksCells_snoc]; exact ho
              have hg2 : Grow w w' := Row.below (Grow.trans hg (show Grow wr _ from by repeat' (first | exact g4 | refine Grow.set ?_ _ _ (Nat.le_refl _) _ | refine Grow.drewR ?_))) hgr (Nat.le_trans hg.size (Below.size (show Grow wr _ from by repeat' (first | exact g4 | refine Grow.set ?_ _ _ (Nat.le_refl _) _ | refine Grow.drewR ?_)))) (fun k hk => (hown.lt k hk).1)
              clear hgr hs' g4 hg hown c0 c1 c2 c3 f0 f1 f2
              go_wp2_with fail
              go_roundw
              case rel => exact ⟨k + (1 + d), acc ++ [⟨2, L.take (1 + d), (-(v : Int)), k⟩], by omega, by go_num, by rw [List.length_append]; simp only [List.length_singleton]; omega, by rw [List.length_append]; exact ho, HN, hg2⟩
              case measure => simp [intOf]; omega
          · have hmn : minusN L = 1 := by unfold minusN; exact if_pos (by rw [hL]; exact hm)
            have hdm : digsM L = digs (L.drop 1) := by unfold digsM; rw [hmn]; try rfl
            have hn0 : ¬ 0 < digsM L := by rw [hdm]; exact hdg
            have hLl : L.length = s.size - k := by rw [← hLL]; simp
            have hmle := markN_le L
            have hm0 : markN L = 0 := by have h45 : hd L = 45 := (by rw [hL]; exact hm); unfold markN; rw [h45]; simp
            have hst : stepT L = .bad 40 := by unfold stepT; rw [if_neg hw, if_neg hn0, if_neg (by omega)]
            have HN := hid (show R = ⟨[], k, 40⟩ by
              rw [HK.out, scanL_stop hL hb hst, Sc.cons_err _ _ _ (by omega)])
            have hX1 := rest_bytes s (k + 1)
            have D1 := run_digit (s.extract (k + 1) s.size)
            rw [hX1, ← List.drop_drop, hLL] at D1
            rw [show ((L.drop 1).takeWhile isDig).length = 0 from Nat.eq_zero_of_not_pos hdg] at D1
            have C2 := hid (show ∀ w, Calls Tryd.prog 39 #[.string (s.extract (k + 1) s.size), .func (.func 41) #[] #[]] w fun e w' => e = .returned (.int .i64 0) ∧ w = w' from fun w => D1 w (by rw [ByteArray.size_extract]; omega))
            clear D1 hX1
            have t45 : (((s[k]).toNat : Int) == 45) = true := by rw [hm]; rfl
            replace C4 := hid (show ∀ w, Calls Tryd.prog 42 #[.string (s.extract k s.size)] w fun e w' => e = .returned (.string ⟨#[]⟩) ∧ Grow w w' from fun w => by
              have := C4.out w
              rw [hm0] at this
              exact this)
            clear hm0
            clear hmn hdm hn0 D0 hL hX hXs b32 b10 hb hst hne HK hLL hdd hm hw hdg
            go_wp2_with fail
            refine (C1.out _).mono ?_
            rintro e w1 ⟨rfl, rfl⟩
            go_wp2_with fail
            refine (C2.out _).mono ?_
            rintro e w1 ⟨rfl, rfl⟩
            go_wp2_with fail
            refine (C4.out _).mono ?_
            rintro e w4 ⟨rfl, b4⟩
            have ho : w4.heap[wr.heap.size]? = some (.cells #[.int .i64 0, .string ⟨#[]⟩, .int .i64 0, .int .i64 (k : Int)] 78 (0, 0)) := b4.heap (heap_new wr (.cells #[.int .i64 0, .string ⟨#[]⟩, .int .i64 0, .int .i64 (k : Int)] 78))
            have g4 : Grow wr w4 := Grow.trans (Grow.alloc _ _) b4
            have c0 : w4.cell? ⟨wr.heap.size, 0, none⟩ = some (.int .i64 0) := by rw [heap_cell ho]; rfl
            have c1 : w4.cell? ⟨wr.heap.size, 1, none⟩ = some (.string ⟨#[]⟩) := by rw [heap_cell ho]; rfl
            have c2 : w4.cell? ⟨wr.heap.size, 2, none⟩ = some (.int .i64 0) := by rw [heap_cell ho]; rfl
            have c3 : w4.cell? ⟨wr.heap.size, 3, none⟩ = some (.int .i64 (k : Int)) := by rw [heap_cell ho]; rfl
            have f0 : w4.frozen? ⟨wr.heap.size, 0, none⟩ = false := heap_frozen ho 0 (by omega)
            have f1 : w4.frozen? ⟨wr.heap.size, 1, none⟩ = false := heap_frozen ho 1 (by omega)
            have f2 : w4.frozen? ⟨wr.heap.size, 2, none⟩ = false := heap_frozen ho 2 (by omega)
            clear ho b4
            go_wp2_with fail
            go_ret3
            refine ⟨.slice none 0 0, ?_, ?_, Grow.trans hg (show Grow wr _ from by repeat' (first | exact g4 | refine Grow.set ?_ _ _ (Nat.le_refl _) _ | refine Grow.drewR ?_))⟩
            · rw [HN.out]; rfl
            · rw [HN.out]; exact Toks.nil _
        · by_cases hdg : 0 < digs L
          · cases hv : valF (L.take (digs L)) 0 with
            | none =>
              have hmn : minusN L = 0 := by unfold minusN; exact if_neg (by rw [hL]; exact hm)
              have hdm : digsM L = digs L := by unfold digsM; rw [hmn]; try rfl
              have hall : ∀ b ∈ L.take (digs L), isDig b = true := by unfold digs; rw [take_takeWhile]; exact all_takeWhile isDig _
              have hle := digs_le L
              have hLl : L.length = s.size - k := by rw [← hLL]; simp
              have hn0 : 0 < digsM L := by rw [hdm]; exact hdg
              have hst0 : stepT L = match valF (L.take (digs L)) 0 with | none => .bad 2 | some v => .tok 2 (digs L) (v : Int) := by
                unfold stepT; rw [if_neg hw, if_pos hn0, hmn, hdm]; simp only [Nat.zero_add]; rfl
              have hse : (s.extract k (k + (digs L))).data.toList = L.take (digs L) := by
                rw [sub_bytes, hLL]
              have hses : (s.extract k (k + (digs L))).size ≤ 140737488351232 := by rw [ByteArray.size_extract]; omega
              have C5 := number_c (s.extract k (k + (digs L)))
              rw [hse] at C5
              replace C5 := fun w => C5 w hses hall
              rw [hv] at hst0 C5
              have hst : stepT L = .bad 2 := hst0
              have HN := hid (show R = ⟨[], k, 2⟩ by
                rw [HK.out, scanL_stop hL hb hst, Sc.cons_err _ _ _ (by omega)])
              replace C5 := hid (show ∀ w, Calls Tryd.prog 43 #[.string (s.extract k (k + (digs L)))] w fun e w' => e = .returned (.tuple #[.int .i64 0, .bool false]) ∧ w = w' from C5)
              have C2 := hid (show ∀ w, Calls Tryd.prog 39 #[.string (s.extract k s.size), .func (.func 41) #[] #[]] w fun e w' => e = .returned (.int .i64 (digs L : Int)) ∧ w = w' from D0.out)
              have t45 : (((s[k]).toNat : Int) == 45) = false := by simp; omega
              clear hse hses hall hst0 hmn hdm hn0 D0 hL hX hXs b32 b10 hb hst hne HK hLL hdd hv hm hw
              generalize digs L = d at *
              have hdg' : (0 : Int) < (d : Int) := by omega
              go_wp2_with fail
              refine (C1.out _).mono ?_
              rintro e w1 ⟨rfl, rfl⟩
              go_wp2_with fail
              refine (C2.out _).mono ?_
              rintro e w1 ⟨rfl, rfl⟩
              go_wp2_with fail
              refine (C4.out _).mono ?_
              rintro e w4 ⟨rfl, b4⟩
              have ho : w4.heap[wr.heap.size]? = some (.cells #[.int .i64 0, .string ⟨#[]⟩, .int .i64 0, .int .i64 (k : Int)] 78 (0, 0)) := b4.heap (heap_new wr (.cells #[.int .i64 0, .string ⟨#[]⟩, .int .i64 0, .int .i64 (k : Int)] 78))
              have g4 : Grow wr w4 := Grow.trans (Grow.alloc _ _) b4
              have c0 : w4.cell? ⟨wr.heap.size, 0, none⟩ = some (.int .i64 0) := by rw [heap_cell ho]; rfl
              have c1 : w4.cell? ⟨wr.heap.size, 1, none⟩ = some (.string ⟨#[]⟩) := by rw [heap_cell ho]; rfl
              have c2 : w4.cell? ⟨wr.heap.size, 2, none⟩ = some (.int .i64 0) := by rw [heap_cell ho]; rfl
              have c3 : w4.cell? ⟨wr.heap.size, 3, none⟩ = some (.int .i64 (k : Int)) := by rw [heap_cell ho]; rfl
              have f0 : w4.frozen? ⟨wr.heap.size, 0, none⟩ = false := heap_frozen ho 0 (by omega)
              have f1 : w4.frozen? ⟨wr.heap.size, 1, none⟩ = false := heap_frozen ho 1 (by omega)
              have f2 : w4.frozen? ⟨wr.heap.size, 2, none⟩ = false := heap_frozen ho 2 (by omega)
              clear ho b4
              go_wp2_with fail
              refine (C5.out _).mono ?_
              rintro e w5 ⟨rfl, rfl⟩
              go_wp2_with fail
              go_ret3
              refine ⟨.slice none 0 0, ?_, ?_, Grow.trans hg (show Grow wr _ from by repeat' (first | exact g4 | refine Grow.set ?_ _ _ (Nat.le_refl _) _ | refine Grow.drewR ?_))⟩
              · rw [HN.out]; rfl
              · rw [HN.out]; exact Toks.nil _
            | some v =>
              have hmn : minusN L = 0 := by unfold minusN; exact if_neg (by rw [hL]; exact hm)
              have hdm : digsM L = digs L := by unfold digsM; rw [hmn]; try rfl
              have hall : ∀ b ∈ L.take (digs L), isDig b = true := by unfold digs; rw [take_takeWhile]; exact all_takeWhile isDig _
              have hle := digs_le L
              have hLl : L.length = s.size - k := by rw [← hLL]; simp
              have hn0 : 0 < digsM L := by rw [hdm]; exact hdg
              have hst0 : stepT L = match valF (L.take (digs L)) 0 with | none => .bad 2 | some v => .tok 2 (digs L) (v : Int) := by
                unfold stepT; rw [if_neg hw, if_pos hn0, hmn, hdm]; simp only [Nat.zero_add]; rfl
              have hse : (s.extract k (k + (digs L))).data.toList = L.take (digs L) := by
                rw [sub_bytes, hLL]
              have hses : (s.extract k (k + (digs L))).size ≤ 140737488351232 := by rw [ByteArray.size_extract]; omega
              have C5 := number_c (s.extract k (k + (digs L)))
              rw [hse] at C5
              replace C5 := fun w => C5 w hses hall
              rw [hv] at hst0 C5
              have hst : stepT L = .tok 2 (digs L) (v : Int) := hst0
              have HN := hid (show R = Sc.cons (acc ++ [⟨2, L.take (digs L), (v : Int), k⟩]) (scanL (s.data.toList.drop (k + (digs L))) (k + (digs L))) by
                rw [HK.out, scanL_step hL hb hst, Sc.cons_cons, hdd (digs L)])
              have hsub := hid (show s.extract k (k + (digs L)) = ⟨(L.take (digs L)).toArray⟩ by rw [sub_bytes, hLL])
              have hvb := valF_le _ 0 v (by omega) hv
              replace C5 := hid (show ∀ w, Calls Tryd.prog 43 #[.string (s.extract k (k + (digs L)))] w fun e w' => e = .returned (.tuple #[.int .i64 (v : Int), .bool true]) ∧ w = w' from C5)
              have C2 := hid (show ∀ w, Calls Tryd.prog 39 #[.string (s.extract k s.size), .func (.func 41) #[] #[]] w fun e w' => e = .returned (.int .i64 (digs L : Int)) ∧ w = w' from D0.out)
              have t45 : (((s[k]).toNat : Int) == 45) = false := by simp; omega
              clear hse hses hall hst0 hmn hdm hn0 D0 hL hX hXs b32 b10 hb hst hne HK hLL hdd hv hm hw
              generalize digs L = d at *
              have hdg' : (0 : Int) < (d : Int) := by omega
              go_wp2_with fail
              refine (C1.out _).mono ?_
              rintro e w1 ⟨rfl, rfl⟩
              go_wp2_with fail
              refine (C2.out _).mono ?_
              rintro e w1 ⟨rfl, rfl⟩
              go_wp2_with fail
              refine (C4.out _).mono ?_
              rintro e w4 ⟨rfl, b4⟩
              have ho : w4.heap[wr.heap.size]? = some (.cells #[.int .i64 0, .string ⟨#[]⟩, .int .i64 0, .int .i64 (k : Int)] 78 (0, 0)) := b4.heap (heap_new wr (.cells #[.int .i64 0, .string ⟨#[]⟩, .int .i64 0, .int .i64 (k : Int)] 78))
              have g4 : Grow wr w4 := Grow.trans (Grow.alloc _ _) b4
              have c0 : w4.cell? ⟨wr.heap.size, 0, none⟩ = some (.int .i64 0) := by rw [heap_cell ho]; rfl
              have c1 : w4.cell? ⟨wr.heap.size, 1, none⟩ = some (.string ⟨#[]⟩) := by rw [heap_cell ho]; rfl
              have c2 : w4.cell? ⟨wr.heap.size, 2, none⟩ = some (.int .i64 0) := by rw [heap_cell ho]; rfl
              have c3 : w4.cell? ⟨wr.heap.size, 3, none⟩ = some (.int .i64 (k : Int)) := by rw [heap_cell ho]; rfl
              have f0 : w4.frozen? ⟨wr.heap.size, 0, none⟩ = false := heap_frozen ho 0 (by omega)
              have f1 : w4.frozen? ⟨wr.heap.size, 1, none⟩ = false := heap_frozen ho 1 (by omega)
              have f2 : w4.frozen? ⟨wr.heap.size, 2, none⟩ = false := heap_frozen ho 2 (by omega)
              clear ho b4
              go_wp2_with fail
              refine (C5.out _).mono ?_
              rintro e w5 ⟨rfl, rfl⟩
              go_wp2_with (at_builtin; go_loud ((try rw [alloc_drew]); refine wpList_pushH w4.heap.size (by simp) rfl _ _ 60 rfl 78 (.agg #[.int .i64 0, .string ⟨#[]⟩, .int .i64 0, .int .i64 0]) 4 40 Tryd.underlying60 infoTok rfl (by omega) w.heap.size _ acc.length _ rfl (own_grow hown (by first | exact g4 | (repeat' (first | exact g4 | refine Grow.set ?_ _ _ (Nat.le_refl _) _ | refine Grow.drewR ?_)))) [_, _, _, _] rfl rfl (by simp [Value.oneCell']) (by unfold maxLen; omega) (by omega) (Nat.le_trans hg.size (Below.size (show Grow wr _ from by repeat' (first | exact g4 | refine Grow.set ?_ _ _ (Nat.le_refl _) _ | refine Grow.drewR ?_)))) ?_))
              intro v' w' ho hgr hs'
              simp only [hsub.out] at ho
              replace ho : w'.ownsRow w.heap.size 78 4 v' (acc.length + 1) (toksCells (acc ++ [⟨2, L.take d, (v : Int), k⟩])) := by rw [← toksCells_snoc]; exact ho
              have hg2 : Grow w w' := Row.below (Grow.trans hg (show Grow wr _ from by repeat' (first | exact g4 | refine Grow.set ?_ _ _ (Nat.le_refl _) _ | refine Grow.drewR ?_))) hgr (Nat.le_trans hg.size (Below.size (show Grow wr _ from by repeat' (first | exact g4 | refine Grow.set ?_ _ _ (Nat.le_refl _) _ | refine Grow.drewR ?_)))) (fun k hk => (hown.lt k hk).1)
              clear hgr hs' g4 hg hown c0 c1 c2 c3 f0 f1 f2
              go_wp2_with fail
              go_roundw
              case rel => exact ⟨k + d, acc ++ [⟨2, L.take d, (v : Int), k⟩], by omega, by go_num, by rw [List.length_append]; simp only [List.length_singleton]; omega, by rw [List.length_append]; exact ho, HN, hg2⟩
              case measure => simp [intOf]; omega
          · by_cases hmk : 0 < markN L
            · have hmn : minusN L = 0 := by unfold minusN; exact if_neg (by rw [hL]; exact hm)
              have hdm : digsM L = digs L := by unfold digsM; rw [hmn]; try rfl
              have hn0 : ¬ 0 < digsM L := by rw [hdm]; exact hdg
              have hLl : L.length = s.size - k := by rw [← hLL]; simp
              have hmle := markN_le L
              have hst : stepT L = .tok 3 (markN L) 0 := by unfold stepT; rw [if_neg hw, if_neg hn0, if_pos hmk]
              have HN := hid (show R = Sc.cons (acc ++ [⟨3, L.take (markN L), 0, k⟩]) (scanL (s.data.toList.drop (k + markN L)) (k + markN L)) by
                rw [HK.out, scanL_step hL hb hst, Sc.cons_cons, hdd (markN L)])
              have hTs : (⟨(L.take (markN L)).toArray⟩ : ByteArray).size = markN L := by rw [ByteArray.size, List.size_toArray, List.length_take]; omega
              have hTe : (⟨(L.take (markN L)).toArray⟩ : ByteArray).toList.isEmpty = false := by
                rw [ByteArray.toList_eq]
                cases hh : L.take (markN L) with
                | nil => have := congrArg List.length hh; rw [List.length_take] at this; simp only [List.length_nil] at this; omega
                | cons a l => rfl
              have hsub := hid (show (⟨(L.take (markN L)).toArray⟩ : ByteArray) = ⟨(L.take (markN L)).toArray⟩ from rfl)
              have D1 := D0.out
              rw [show (L.takeWhile isDig).length = 0 from Nat.eq_zero_of_not_pos hdg] at D1
              have C2 := hid (show ∀ w, Calls Tryd.prog 39 #[.string (s.extract k s.size), .func (.func 41) #[] #[]] w fun e w' => e = .returned (.int .i64 0) ∧ w = w' from D1)
              clear D1
              have t45 : (((s[k]).toNat : Int) == 45) = false := by simp; omega
              clear hmn hdm hn0 D0 hL hX hXs b32 b10 hb hst hne HK hLL hdd hm hw hdg
              generalize hq : markN L = q at *
              generalize hT : (⟨(L.take q).toArray⟩ : ByteArray) = T at *
              clear hq
              have HT := hid hT
              clear hT
              have hq' : T.toList.isEmpty = false := hTe
              go_wp2_with fail
              refine (C1.out _).mono ?_
              rintro e w1 ⟨rfl, rfl⟩
              go_wp2_with fail
              refine (C2.out _).mono ?_
              rintro e w1 ⟨rfl, rfl⟩
              go_wp2_with fail
              refine (C4.out _).mono ?_
              rintro e w4 ⟨rfl, b4⟩
              have ho : w4.heap[wr.heap.size]? = some (.cells #[.int .i64 0, .string ⟨#[]⟩, .int .i64 0, .int .i64 (k : Int)] 78 (0, 0)) := b4.heap (heap_new wr (.cells #[.int .i64 0, .string ⟨#[]⟩, .int .i64 0, .int .i64 (k : Int)] 78))
              have g4 : Grow wr w4 := Grow.trans (Grow.alloc _ _) b4
              have c0 : w4.cell? ⟨wr.heap.size, 0, none⟩ = some (.int .i64 0) := by rw [heap_cell ho]; rfl
              have c1 : w4.cell? ⟨wr.heap.size, 1, none⟩ = some (.string ⟨#[]⟩) := by rw [heap_cell ho]; rfl
              have c2 : w4.cell? ⟨wr.heap.size, 2, none⟩ = some (.int .i64 0) := by rw [heap_cell ho]; rfl
              have c3 : w4.cell? ⟨wr.heap.size, 3, none⟩ = some (.int .i64 (k : Int)) := by rw [heap_cell ho]; rfl
              have f0 : w4.frozen? ⟨wr.heap.size, 0, none⟩ = false := heap_frozen ho 0 (by omega)
              have f1 : w4.frozen? ⟨wr.heap.size, 1, none⟩ = false := heap_frozen ho 1 (by omega)
              have f2 : w4.frozen? ⟨wr.heap.size, 2, none⟩ = false := heap_frozen ho 2 (by omega)
              clear ho b4
              go_wp2_with (at_builtin; go_loud ((try rw [alloc_drew]); refine wpList_pushH w4.heap.size (by simp) rfl _ _ 60 rfl 78 (.agg #[.int .i64 0, .string ⟨#[]⟩, .int .i64 0, .int .i64 0]) 4 40 Tryd.underlying60 infoTok rfl (by omega) w.heap.size _ acc.length _ rfl (own_grow hown (by first | exact g4 | (repeat' (first | exact g4 | refine Grow.set ?_ _ _ (Nat.le_refl _) _ | refine Grow.drewR ?_)))) [_, _, _, _] rfl rfl (by simp [Value.oneCell']) (by unfold maxLen; omega) (by omega) (Nat.le_trans hg.size (Below.size (show Grow wr _ from by repeat' (first | exact g4 | refine Grow.set ?_ _ _ (Nat.le_refl _) _ | refine Grow.drewR ?_)))) ?_))
              intro v' w' ho hgr hs'
              simp only [← HT.out] at ho
              replace ho : w'.ownsRow w.heap.size 78 4 v' (acc.length + 1) (toksCells (acc ++ [⟨3, L.take q, 0, k⟩])) := by rw [← toksCells_snoc]; exact ho
              have hg2 : Grow w w' := Row.below (Grow.trans hg (show Grow wr _ from by repeat' (first | exact g4 | refine Grow.set ?_ _ _ (Nat.le_refl _) _ | refine Grow.drewR ?_))) hgr (Nat.le_trans hg.size (Below.size (show Grow wr _ from by repeat' (first | exact g4 | refine Grow.set ?_ _ _ (Nat.le_refl _) _ | refine Grow.drewR ?_)))) (fun k hk => (hown.lt k hk).1)
              clear hgr hs' g4 hg hown c0 c1 c2 c3 f0 f1 f2
              go_wp2_with fail
              go_roundw
              case rel => exact ⟨k + q, acc ++ [⟨3, L.take q, 0, k⟩], by omega, by go_num, by rw [List.length_append]; simp only [List.length_singleton]; omega, by rw [List.length_append]; exact ho, HN, hg2⟩
              case measure => simp [intOf]; omega
            · have hmn : minusN L = 0 := by unfold minusN; exact if_neg (by rw [hL]; exact hm)
              have hdm : digsM L = digs L := by unfold digsM; rw [hmn]; try rfl
              have hn0 : ¬ 0 < digsM L := by rw [hdm]; exact hdg
              have hLl : L.length = s.size - k := by rw [← hLL]; simp
              have hmle := markN_le L
              have hm0 : markN L = 0 := by omega
              have hst : stepT L = .bad 40 := by unfold stepT; rw [if_neg hw, if_neg hn0, if_neg (by omega)]
              have HN := hid (show R = ⟨[], k, 40⟩ by
                rw [HK.out, scanL_stop hL hb hst, Sc.cons_err _ _ _ (by omega)])
              have D1 := D0.out
              rw [show (L.takeWhile isDig).length = 0 from Nat.eq_zero_of_not_pos hdg] at D1
              have C2 := hid (show ∀ w, Calls Tryd.prog 39 #[.string (s.extract k s.size), .func (.func 41) #[] #[]] w fun e w' => e = .returned (.int .i64 0) ∧ w = w' from D1)
              clear D1
              have t45 : (((s[k]).toNat : Int) == 45) = false := by simp; omega
              replace C4 := hid (show ∀ w, Calls Tryd.prog 42 #[.string (s.extract k s.size)] w fun e w' => e = .returned (.string ⟨#[]⟩) ∧ Grow w w' from fun w => by
                have := C4.out w
                rw [hm0] at this
                exact this)
              clear hm0
              clear hmn hdm hn0 D0 hL hX hXs b32 b10 hb hst hne HK hLL hdd hm hw hdg
              go_wp2_with fail
              refine (C1.out _).mono ?_
              rintro e w1 ⟨rfl, rfl⟩
              go_wp2_with fail
              refine (C2.out _).mono ?_
              rintro e w1 ⟨rfl, rfl⟩
              go_wp2_with fail
              refine (C4.out _).mono ?_
              rintro e w4 ⟨rfl, b4⟩
              have ho : w4.heap[wr.heap.size]? = some (.cells #[.int .i64 0, .string ⟨#[]⟩, .int .i64 0, .int .i64 (k : Int)] 78 (0, 0)) := b4.heap (heap_new wr (.cells #[.int .i64 0, .string ⟨#[]⟩, .int .i64 0, .int .i64 (k : Int)] 78))
              have g4 : Grow wr w4 := Grow.trans (Grow.alloc _ _) b4
              have c0 : w4.cell? ⟨wr.heap.size, 0, none⟩ = some (.int .i64 0) := by rw [heap_cell ho]; rfl
              have c1 : w4.cell? ⟨wr.heap.size, 1, none⟩ = some (.string ⟨#[]⟩) := by rw [heap_cell ho]; rfl
              have c2 : w4.cell? ⟨wr.heap.size, 2, none⟩ = some (.int .i64 0) := by rw [heap_cell ho]; rfl
              have c3 : w4.cell? ⟨wr.heap.size, 3, none⟩ = some (.int .i64 (k : Int)) := by rw [heap_cell ho]; rfl
              have f0 : w4.frozen? ⟨wr.heap.size, 0, none⟩ = false := heap_frozen ho 0 (by omega)
              have f1 : w4.frozen? ⟨wr.heap.size, 1, none⟩ = false := heap_frozen ho 1 (by omega)
              have f2 : w4.frozen? ⟨wr.heap.size, 2, none⟩ = false := heap_frozen ho 2 (by omega)
              clear ho b4
              go_wp2_with fail
              go_ret3
              refine ⟨.slice none 0 0, ?_, ?_, Grow.trans hg (show Grow wr _ from by repeat' (first | exact g4 | refine Grow.set ?_ _ _ (Nat.le_refl _) _ | refine Grow.drewR ?_))⟩
              · rw [HN.out]; rfl
              · rw [HN.out]; exact Toks.nil _
    · obtain rfl : k = s.size := by omega
      have HN := hid (show R = ⟨acc, s.size, 0⟩ by rw [HK.out, List.drop_eq_nil_of_le (by simp), scanL_nil, Sc.cons_nil])
      have hT := hid (Toks.of_own hown rfl (by omega))
      clear hown HK
      go_wp2_with fail
      go_ret3
      rw [HN.out]
      exact ⟨_, rfl, hT.out, hg⟩
end Go.Proofs.YteilkcdbdpkbfaaDoor
