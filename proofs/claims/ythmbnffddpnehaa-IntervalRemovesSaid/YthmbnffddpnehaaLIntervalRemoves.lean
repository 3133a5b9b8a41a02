/- One that is removed is met no more, and all others are as they were. -/
import Derived.Test.YthmbnffddpnehaaIMeets
namespace Go.Proofs.Ythmbnffddpnehaa
open Go.RowKit Go.Joins Go.ChangeShapes Go.WideShapes Go.Deep Go.WideElems Go.Maps
set_option linter.unusedVariables false
set_option linter.unusedSimpArgs false
theorem RemoveAny_c {w : World} {B p : Nat} {L : List It} {nx : Int} {N : Nat} {T : Tr} {mb : Nat} (k : Int) (hk : -9223372036854775808 ≤ k ∧ k ≤ 9223372036854775807) (hL : L.length ≤ 500000) (h : IxAt w B p L nx N T mb) :
    Calls Try.prog 23 #[.pointer (some ⟨p, 0, none⟩), .int .i64 k] w (RemIx B p L nx N k w) := by
  cases hl : look L k with
  | none => exact RemoveNo_c k hk h hl
  | some z => exact RemoveYes_c k hk z hL h hl
theorem RGetAny_c (last : Int) (v : Value) (l : List It) (k : Int) (w : World) (hv : RIts w v l) :
    Calls Try.prog 21 #[.agg #[v, .int .i64 last], .int .i64 k] w fun e w' => (∃ z : It, e = .returned (.tuple #[rrow z, .bool (look l k).isSome])) ∧ Grow w w' := by
  cases hl : look l k with
  | none =>
    refine (RGetNo_c last v l k w hv hl).mono ?_
    rintro e w' ⟨rfl, g⟩
    exact ⟨⟨noIt, rfl⟩, g⟩
  | some z =>
    refine (RGetYes_c last v l k z w hv hl).mono ?_
    rintro e w' ⟨rfl, g⟩
    exact ⟨⟨z, rfl⟩, g⟩
theorem look_wout (k : Int) (L : List It) : look (L.filter (fun x => decide (x.id ≠ k))) k = none := by
  rw [look_filter, if_pos rfl]
set_option maxRecDepth 100000 in
set_option maxHeartbeats 8000000 in
theorem IntervalRemoves_walk (l : List ActR) (v : Value) (k : Int) (w : World) (ha : Acts w v l) (hk : -9223372036854775808 ≤ k) (hk' : k ≤ 9223372036854775807) :
    Calls Try.prog 6 #[v, .int .i64 k] w fun e w' => e = .returned (.bool true) ∧ Below w.heap.size w w' := by
  have hS := fillS_100 l
  have HF := hid (filled_c v l w ha)
  obtain ⟨A, c, rfl, -, -, -⟩ := ha
  generalize l.length = n at *
  generalize fillS (l.take 100) = S at *
  obtain ⟨L, nx⟩ := S
  dsimp only at hS HF
  have HW := hid (fun w => awake_c w)
  go_enter Try.func6, Try.ntmps6
  go_wp2_with fail
  refine HF.out.mono ?_
  rintro e w1 ⟨p, v', rfl, hB, hT⟩
  obtain ⟨⟨N2, T, mb, hix, -⟩, hro⟩ := hB
  dsimp only at hix hro
  have HRO := hid hro
  have HRI := hid hro.items
  obtain ⟨A1, c1, hv', -, -, -⟩ := hro.items
  subst hv'
  have HT := hid hT
  have HIX := hid hix
  have hL2 : (wout k L).length ≤ 100 := by
    unfold wout
    exact Nat.le_trans (List.length_filter_le _ _) hS.2
  clear HF hT hix hro
  have HL1 := hid hS.2
  clear hS
  have HNL : ∃ nl, nl = L.length := ⟨_, rfl⟩
  obtain ⟨nl, hnl⟩ := HNL
  have HGET := hid (fun (w' : World) (g : Grow w1 w') => RGetAny_c nx _ L k w' (HRI.out.grow g))
  have HREM := hid (fun (w' : World) (g : Grow w1 w') => RRemove_c nx _ L k w' (HRO.out.grow g))
  have HRX := hid (fun (w' : World) (g : Grow w1 w') => (RemoveAny_c k ⟨hk, hk'⟩ (by have := HL1.out; omega) (HIX.out.grow g)).mono (R' := fun e w'' => e = .returned (.bool (look L k).isSome) ∧ (∃ T' mb', IxAt w'' w.heap.size p (wout k L) nx N2 T' mb') ∧ Turn w.heap.size w' w'') fun e w'' h => h)
  have hlk : look (wout k L) k = none := look_wout k L
  have hww : (wout k L).filter (fun x => decide (x.id ≠ k)) = wout k L := by unfold wout; simp
  rw [← hnl] at HRO HRI HGET HREM ⊢
  clear hnl
  have g2 := Grow.alloc w1 (.cells #[.slice A1 nl c1, .int .i64 nx] 26)
  have r2 := heap_new w1 (.cells #[.slice A1 nl c1, .int .i64 nx] 26)
  have q0 : (w1.alloc (.cells #[.slice A1 nl c1, .int .i64 nx] 26)).cell? ⟨w1.heap.size, 0, none⟩ = some (.slice A1 nl c1) := by rw [heap_cell r2]; rfl
  have q1 : (w1.alloc (.cells #[.slice A1 nl c1, .int .i64 nx] 26)).cell? ⟨w1.heap.size, 1, none⟩ = some (.int .i64 nx) := by rw [heap_cell r2]; rfl
  have hl2 := heap_lt r2
  go_wp2_with fail
  generalize w1.alloc (.cells #[.slice A1 nl c1, .int .i64 nx] 26) = w2 at *
  generalize hrbe : w1.heap.size = rb at *
  have HRBE := hid hrbe
  clear hrbe
  refine (HGET.out _ g2).mono ?_
  rintro e w3 ⟨⟨z, rfl⟩, g3⟩
  generalize (look L k).isSome = there at *
  generalize wout k L = L2 at *
  replace q0 := g3.cell q0
  replace q1 := g3.cell q1
  have R3 := hid (g3.heap r2)
  have hl3 := heap_lt R3.out
  have G3 := hid (Grow.trans g2 (Grow.trans g3 (Grow.alloc w3 (.cells #[.int .i64 z.id, .int .i64 z.f, .int .i64 z.t, .string z.v] 50))))
  have R3' := hid ((Grow.alloc w3 (.cells #[.int .i64 z.id, .int .i64 z.f, .int .i64 z.t, .string z.v] 50)).heap R3.out)
  clear g2 g3 r2 hl2 HGET
  unfold rrow
  go_wp2_with fail
  generalize w3.alloc (.cells #[.int .i64 z.id, .int .i64 z.f, .int .i64 z.t, .string z.v] 50) = w4 at *
  generalize w3.heap.size = ib at *
  refine (HREM.out _ G3.out).mono ?_
  rintro e w5 ⟨v5, rfl, hro5, g5⟩
  have HRO5 := hid hro5
  obtain ⟨A5, c5, hv5, -, -, -⟩ := hro5.items
  subst hv5
  obtain ⟨ml, hml⟩ : ∃ ml, ml = L2.length := ⟨_, rfl⟩
  have HML := hid hml
  rw [← hml] at HRO5 hL2 ⊢
  clear hml hro5
  have r6 := heap_new w5 (.cells #[.slice A5 ml c5, .int .i64 nx] 26)
  have g6 := Grow.alloc w5 (.cells #[.slice A5 ml c5, .int .i64 nx] 26)
  have G6 := hid (Grow.trans G3.out (Grow.trans g5 g6))
  clear q0 q1 hl3 HREM
  go_wp2_with fail
  generalize w5.alloc (.cells #[.slice A5 ml c5, .int .i64 nx] 26) = w6 at *
  generalize w5.heap.size = nb at *
  have HR6 := hid r6
  have HRO6 := hid (HRO5.out.grow g6)
  clear r6 g5 g6
  refine (HRX.out _ G6.out).mono ?_
  rintro e w7 ⟨rfl, ⟨T7, mb7, hix7⟩, t7⟩
  have HR7 := hid (t7.keep _ _ HR6.out (by simp [otherI]))
  have HRO7 := hid (HRO6.out.turn t7)
  have HT7 := hid ((HT.out.trans (Turn.of_grow G6.out HT.out.below.size)).trans t7)
  have HRX2 := hid ((RemoveNo_c k ⟨hk, hk'⟩ hix7 hlk).mono (R' := fun e w'' => e = .returned (.bool false) ∧ (∃ T' mb', IxAt w'' w.heap.size p L2 nx N2 T' mb') ∧ Turn w.heap.size w7 w'') fun e w'' h => by
    unfold RemIx at h
    rw [hlk, hww] at h
    exact h)
  clear hix7 t7 HRX
  have hbb : (there != there) = false := by cases there <;> rfl
  go_wp2_with fail
  refine HRX2.out.mono ?_
  rintro e w8 ⟨rfl, ⟨T8, mb8, hix8⟩, t8⟩
  have HR8 := hid (t8.keep _ _ HR7.out (by simp [otherI]))
  have HRO8 := hid (HRO7.out.turn t8)
  have HT8 := hid (HT7.out.trans t8)
  have HGX := hid (GetNo_c k ⟨hk, hk'⟩ hix8 hlk)
  have HIX8 := hid hix8
  clear hix8 t8 HRX2
  go_wp2_with fail
  refine HGX.out.mono ?_
  rintro e w9 ⟨rfl, g9⟩
  unfold itemV
  dsimp only
  have g10 := Grow.trans g9 (Grow.alloc w9 (.cells #[.int .i64 0, .int .i64 0, .string ByteArray.empty] 46))
  have r10 := g10.heap HR8.out
  have q0 : (w9.alloc (.cells #[.int .i64 0, .int .i64 0, .string ByteArray.empty] 46)).cell? ⟨nb, 0, none⟩ = some (.slice A5 ml c5) := by rw [heap_cell r10]; rfl
  have hl10 := heap_lt r10
  clear HGX
  go_wp2_with fail
  generalize w9.alloc (.cells #[.int .i64 0, .int .i64 0, .string ByteArray.empty] 46) = w10 at *
  have HMET := hid (show ∀ w' : World, Grow w10 w' → Calls Try.prog 16 #[.pointer (some ⟨p, 0, none⟩), .int .i64 (-9223372036854775808), .int .i64 9223372036854775807, .int .i64 1000] w' fun e w'' => ∃ lv, e = .returned lv ∧ RIts w'' lv L2 ∧ Grow w' w'' from fun w' g => by
    have hx := HIX8.out.grow (g10.trans g)
    have h := metAny_c (some ⟨p, 0, none⟩) T8 (-9223372036854775808) 9223372036854775807 1000 w' hx.ptr (by rw [hx.items]; exact hx.rises) (by omega) (by omega)
    rw [hx.items, metL_all hx.fits, List.take_of_length_le (by have := HML.out; simp; omega)] at h
    exact h)
  have HLEN := hid (show ∀ w' : World, Grow w10 w' → Calls Try.prog 25 #[.pointer (some ⟨p, 0, none⟩)] w' fun e w'' => e = .returned (.int .i64 (ml : Int)) ∧ w' = w'' from fun w' g => by
    have h := Len_c (HIX8.out.grow (g10.trans g))
    rw [← HML.out] at h
    exact h.mono fun _ _ hh => ⟨hh.1, hh.2.symm⟩)
  have HRI2 := hid (show ∀ w' : World, Grow w10 w' → RIts w' (.slice A5 ml c5) L2 from fun w' g => (HRO8.out.items.grow g10).grow g)
  have HGG := hid g10
  clear g10 r10 HML hlk hww hL2 hbb
  refine wp_rely [.eq (.bool false), .eq (.bool true), .eq (.bool true), .eq (.pointer (some ⟨p, 0, none⟩)), (⟨fun v w => RIts w v L2, fun _ _ _ h g => RIts.grow h g⟩ : Per), .eq (.pointer (some ⟨nb, 0, none⟩)), .eq (.slice A5 ml c5), .eq (.bool true), .eq (.bool true), .eq (.bool true), .eq (.pointer (some ⟨p, 0, none⟩)), .eq (.int .i64 (ml : Int)), .eq (.pointer (some ⟨nb, 0, none⟩)), .eq (.slice A5 ml c5), .eq (.int .i64 (ml : Int)), .eq (.bool true), .eq (.bool true), .eq (.bool true), .eq (.bool true), .eq (.bool true), .eq (.bool true)] (by kernel_rfl) (by kernel_rfl) (by kernel_rfl) ?_ ?_
  · simp only [relyGoals]
    refine ⟨?_, ?_, ?_, ?_, ?_, ?_, ?_, ?_, ?_, ?_, ?_, ?_, ?_, ?_, ?_, ?_, ?_, ?_, ?_, ?_, ?_, trivial⟩
    all_goals intro t w' hsz hg hdd hfr
    all_goals simp only [depsDid, Did, perAt, List.getElem?_cons_zero, List.getElem?_cons_succ, List.getD_cons_zero, List.getD_cons_succ, Per.eq, Per.row, Per.of, and_true, Array.getD_eq_getD_getElem?] at hdd
    · rw [if_pos (by rfl)]
      try simp only [perAt, List.getD_cons_zero, List.getD_cons_succ, Per.eq, Per.row, Per.of]
      have hs12 := hfr 12 (by kernel_rfl)
      simp only [Array.getD_eq_getD_getElem?] at hs12
      simp [execOp, Act.eval, hdd, hs12, relyUpon, go_sem, Grow.refl]
    · rw [if_pos (by rfl)]
      try simp only [perAt, List.getD_cons_zero, List.getD_cons_succ, Per.eq, Per.row, Per.of]
      simp [execOp, Act.eval, hdd, relyUpon, go_sem, Grow.refl]
    · rw [if_pos (by rfl)]
      try simp only [perAt, List.getD_cons_zero, List.getD_cons_succ, Per.eq, Per.row, Per.of]
      simp [execOp, Act.eval, hdd, relyUpon, go_sem, Grow.refl]
    · rw [if_pos (by simp only [Region.wanted]; rw [yielded_of (d := 48) (b := true) rfl (by simp only [hdd])]; rfl)]
      try simp only [perAt, List.getD_cons_zero, List.getD_cons_succ, Per.eq, Per.row, Per.of]
      have hs5 := hfr 5 (by kernel_rfl)
      simp only [Array.getD_eq_getD_getElem?] at hs5
      simp [execOp, Act.eval, hdd, hs5, relyUpon, go_sem, Grow.refl]
    · rw [if_pos (by simp only [Region.wanted]; rw [yielded_of (d := 48) (b := true) rfl (by simp only [hdd])]; rfl)]
      try simp only [perAt, List.getD_cons_zero, List.getD_cons_succ, Per.eq, Per.row, Per.of]
      simp [execOp, Act.eval, hdd, relyUpon, go_sem]
      refine (HMET.out w' hg).mono fun e w'' h => ?_
      obtain ⟨lv, h1, h2, h3⟩ := h
      subst h1
      first | exact ⟨_, rfl, h3, h2⟩ | exact ⟨h3, h2⟩
    · rw [if_pos (by simp only [Region.wanted]; rw [yielded_of (d := 48) (b := true) rfl (by simp only [hdd])]; rfl)]
      try simp only [perAt, List.getD_cons_zero, List.getD_cons_succ, Per.eq, Per.row, Per.of]
      have hs9 := hfr 9 (by kernel_rfl)
      simp only [Array.getD_eq_getD_getElem?] at hs9
      simp [execOp, Act.eval, hdd, hs9, relyUpon, go_sem, Grow.refl]
    · rw [if_pos (by simp only [Region.wanted]; rw [yielded_of (d := 48) (b := true) rfl (by simp only [hdd])]; rfl)]
      try simp only [perAt, List.getD_cons_zero, List.getD_cons_succ, Per.eq, Per.row, Per.of]
      have kc := hg.cells
      simp [execOp, Act.eval, hdd, relyUpon, go_sem, Grow.refl, kc, q0, hl10]
    · rw [if_pos (by simp only [Region.wanted]; rw [yielded_of (d := 48) (b := true) rfl (by simp only [hdd])]; rfl)]
      try simp only [perAt, List.getD_cons_zero, List.getD_cons_succ, Per.eq, Per.row, Per.of]
      obtain ⟨k1, k2, -⟩ := hdd
      simp [execOp, Act.eval, k2, relyUpon, go_sem]
      refine (items_c _ _ _ w' k1 (HRI2.out w' hg)).mono fun e w'' h => ?_
      obtain ⟨h1, h2⟩ := h
      first | exact ⟨h2, h1⟩ | exact ⟨_, h1, h2, rfl⟩ | exact ⟨h1, h2⟩
    · rw [if_pos (by rfl)]
      try simp only [perAt, List.getD_cons_zero, List.getD_cons_succ, Per.eq, Per.row, Per.of]
      simp [execOp, Act.eval, hdd, relyUpon, go_sem, Grow.refl]
    · rw [if_pos (by rfl)]
      try simp only [perAt, List.getD_cons_zero, List.getD_cons_succ, Per.eq, Per.row, Per.of]
      simp [execOp, Act.eval, hdd, relyUpon, go_sem, Grow.refl]
    · rw [if_pos (by simp only [Region.wanted]; rw [yielded_of (d := 55) (b := true) rfl (by simp only [hdd])]; rfl)]
      try simp only [perAt, List.getD_cons_zero, List.getD_cons_succ, Per.eq, Per.row, Per.of]
      have hs5 := hfr 5 (by kernel_rfl)
      simp only [Array.getD_eq_getD_getElem?] at hs5
      simp [execOp, Act.eval, hdd, hs5, relyUpon, go_sem, Grow.refl]
    · rw [if_pos (by simp only [Region.wanted]; rw [yielded_of (d := 55) (b := true) rfl (by simp only [hdd])]; rfl)]
      try simp only [perAt, List.getD_cons_zero, List.getD_cons_succ, Per.eq, Per.row, Per.of]
      simp [execOp, Act.eval, hdd, relyUpon, go_sem]
      refine (HLEN.out w' hg).mono fun e w'' h => ?_
      obtain ⟨h1, h2⟩ := h
      have h3 : Grow w' w'' := by first | exact h2 | (rw [← h2]; exact Grow.refl _)
      first | exact ⟨h3, h1⟩ | exact ⟨_, h1, h3, rfl⟩ | exact ⟨h1, h3⟩
    · rw [if_pos (by simp only [Region.wanted]; rw [yielded_of (d := 55) (b := true) rfl (by simp only [hdd])]; rfl)]
      try simp only [perAt, List.getD_cons_zero, List.getD_cons_succ, Per.eq, Per.row, Per.of]
      have hs9 := hfr 9 (by kernel_rfl)
      simp only [Array.getD_eq_getD_getElem?] at hs9
      simp [execOp, Act.eval, hdd, hs9, relyUpon, go_sem, Grow.refl]
    · rw [if_pos (by simp only [Region.wanted]; rw [yielded_of (d := 55) (b := true) rfl (by simp only [hdd])]; rfl)]
      try simp only [perAt, List.getD_cons_zero, List.getD_cons_succ, Per.eq, Per.row, Per.of]
      have kc := hg.cells
      simp [execOp, Act.eval, hdd, relyUpon, go_sem, Grow.refl, kc, q0, hl10]
    · rw [if_pos (by simp only [Region.wanted]; rw [yielded_of (d := 55) (b := true) rfl (by simp only [hdd])]; rfl)]
      try simp only [perAt, List.getD_cons_zero, List.getD_cons_succ, Per.eq, Per.row, Per.of]
      simp [execOp, Act.eval, hdd, relyUpon, go_sem, Grow.refl]
    · rw [if_pos (by simp only [Region.wanted]; rw [yielded_of (d := 55) (b := true) rfl (by simp only [hdd])]; rfl)]
      try simp only [perAt, List.getD_cons_zero, List.getD_cons_succ, Per.eq, Per.row, Per.of]
      simp [execOp, Act.eval, hdd, relyUpon, go_sem, Grow.refl]
    · rw [if_pos (by rfl)]
      try simp only [perAt, List.getD_cons_zero, List.getD_cons_succ, Per.eq, Per.row, Per.of]
      simp [execOp, Act.eval, hdd, relyUpon, go_sem, Grow.refl]
    · rw [if_pos (by rfl)]
      try simp only [perAt, List.getD_cons_zero, List.getD_cons_succ, Per.eq, Per.row, Per.of]
      simp [execOp, Act.eval, hdd, relyUpon, go_sem, Grow.refl]
    · rw [if_pos (by simp only [Region.wanted]; rw [yielded_of (d := 63) (b := true) rfl (by simp only [hdd])]; rfl)]
      try simp only [perAt, List.getD_cons_zero, List.getD_cons_succ, Per.eq, Per.row, Per.of]
      simp [execOp, Act.eval, hdd, relyUpon, go_sem]
      refine (HW.out w').mono fun e w'' h => ?_
      obtain ⟨h1, h2⟩ := h
      have h3 : Grow w' w'' := by first | exact h2 | (rw [← h2]; exact Grow.refl _)
      first | exact ⟨h3, h1⟩ | exact ⟨_, h1, h3, rfl⟩ | exact ⟨h1, h3⟩
    · rw [if_pos (by rfl)]
      try simp only [perAt, List.getD_cons_zero, List.getD_cons_succ, Per.eq, Per.row, Per.of]
      simp [execOp, Act.eval, hdd, relyUpon, go_sem, Grow.refl]
    · rw [if_pos (by rfl)]
      try simp only [perAt, List.getD_cons_zero, List.getD_cons_succ, Per.eq, Per.row, Per.of]
      simp [execOp, Act.eval, hdd, relyUpon, go_sem, Grow.refl]
  intro wz hgz
  simp only [relyEnd, List.headD_cons, List.tail_cons, Per.eq, Per.row, Per.of]
  rintro _ rfl _ rfl _ rfl _ rfl _ _ _ rfl _ rfl _ rfl _ rfl _ rfl _ rfl _ rfl _ rfl _ rfl _ rfl _ rfl _ rfl _ rfl _ rfl _ rfl _ rfl
  go_simp
  go_wp2_with fail
  go_ret
  exact ⟨rfl, Below.trans HT8.out.below (Below.mono (Grow.trans HGG.out hgz) HT8.out.below.size)⟩
namespace LawIntervalRemoves
open Go.ChangeShapes Go.WideShapes Go.ChangeAt Go.RowKit
open Go.ChangeMaps (open_string shut_string)
theorem own : ownKnob Try.prog.godebug = none := by kernel_rfl
theorem laidOut : laidOutB Try.prog = true := by kernel_rfl
set_option maxRecDepth 100000 in
theorem lifted (os : Os) (started : os.Started) (H : Type) (enc : TypeId × Value → H) :
    ReturnsInHanded {} Try.checked os 6 .any (Rows.intervalRemovesSpec.pre6 enc Try.prog Try.f6 Rows.intervalRemovesRow.domain false) (Rows.intervalRemovesSpec.post enc Try.prog Try.f6 false true false false) := by
  refine returnsInHanded_of_change_sized (C := Try.checked) own started (by kernel_rfl) Try.func6
    (ChangeSpec.witness6 (enc := enc) (C := Try.checked) false ⟨#[], #[.slice none 0 0, .int .i64 0], []⟩ 8 (by kernel_rfl) (by kernel_rfl) (by kernel_rfl) (by kernel_rfl)) ?_
  intro W base args ds gs before hval0 hW hcnd hsz _
  have hval : ∀ (j : Nat) t v, Try.f6.params[j]? = some t → args[j]? = some v → Value.okWide Try.prog W .any base t v := hval0
  have hW' := hW
  obtain ⟨p, q, hA0, hV, rfl, hfz, hnd⟩ := hW
  have hA : DataW.TrodAll enc Try.prog W 0 (fun _ => true) true Try.f6.params.toList args.toList ds p := hA0
  rw [Try.params6] at hA hval hsz
  obtain ⟨v0, vs0, d0, ds0, p0, q0, hargs, rfl, rfl, h0, r0⟩ := trodAll_cons hA
  obtain ⟨v1, vs1, d1, ds1, p1, q1, rfl, rfl, rfl, h1, r1⟩ := trodAll_cons r0
  obtain ⟨rfl, rfl, rfl⟩ := trodAll_nil r1
  obtain rfl : args = #[v0, v1] := by cases args; simp_all
  obtain ⟨rfl, rfl⟩ := trodVars_none hV
  obtain ⟨a0, n0, c0, rfl⟩ := okWide_slice Try.underlying22 (hval 0 22 v0 rfl rfl)
  have k0 := h0
  have lt0 : ∀ x ∈ p0, x.block < W.heap.size := by obtain ⟨m, hm⟩ := k0; exact DataW.trod_lt m _ _ _ hm
  obtain ⟨z0, w0⟩ : ∃ l, Acts W (.slice a0 n0 c0) l := by
    obtain ⟨fuel, hf⟩ := h0
    obtain ⟨l, v, hcs, hl⟩ := open_acts hf (fun elems sp hx => by
      simp only at hx
      subst hx
      have hre := sized_slice hsz (j := 0) (t := 22) rfl rfl Try.underlying22
      have hby : Try.checked.prog.bytesOf 63 = 48 := by kernel_rfl
      rw [hby] at hre
      simp only [reachBytes] at hre
      omega)
    simp [Value.cells] at hcs
    subst hcs
    exact ⟨l, hl⟩
  obtain ⟨a1, rfl, rfl, rfl, w1⟩ := open_int Try.underlying3 (hval 1 3 v1 rfl rfl) h1
  have b1 := wf_i64 w1
  clear hA0 hval0
  refine (IntervalRemoves_walk z0 (.slice a0 n0 c0) a1 W w0 b1.1 b1.2).mono fun e W' ⟨he, bel⟩ => ?_
  subst he
  exact ⟨_, rfl, _, _, _, [], _, [], hW', trodAll_mk1 (shut_bool Try.underlying4 _), (trodAll_cons_mk (Below.trod laidOut (by kernel_rfl) (of_decide_eq_true (by kernel_rfl)) k0 bel lt0) (trodAll_cons_mk (shut_int Try.underlying3 w1) trodAll_mk0)), rfl, bel.frame _, fun h => by cases h⟩
theorem over : Rows.intervalRemovesRow.holds Try.pinned (OpenSpec.ofChange Rows.intervalRemovesSpec) :=
  OpenClaim.holds_of_wide 6 Try.f6 rfl rfl rfl rfl rfl rfl rfl ⟨rfl, rfl, rfl, rfl, rfl⟩ rfl rfl rfl rfl rfl (by kernel_rfl) Try.func6 (by kernel_rfl)
    (of_decide_eq_true (by kernel_rfl)) (by unfold Func.isWrapper; first | (rw [if_pos (by decide +kernel)]; kernel_rfl) | (rw [if_neg (by decide +kernel)]; exact ⟨rfl, rfl⟩))
    (fun os started H enc _ => lifted os started H enc)
end LawIntervalRemoves
/-- The given statement. -/
theorem intervalRemoves_proved : Rows.IntervalRemovesSaid := LawIntervalRemoves.over
#print axioms intervalRemoves_proved
end Go.Proofs.Ythmbnffddpnehaa
