/- The law of parentheses about a whole condition: for every text that came in; the tied card. The package variables are what the card ties to the program's text. -/
import Derived.Test.YteilkcdbdpkbfaaDoorQAwake
import Derived.Test.YteilkcdbdpkbfaaDoorQSize
import Derived.Test.YteilkcdbdpkbfaaDoorQGroup
import Derived.Test.YteilkcdbdpkbfaaDoorQLaid
import Derived.Test.YteilkcdbdpkbfaaDoorRely
import Derived.Test.YteilkcdbdpkbfaaDoorCards
import Derived.Test.YteilkcdbdpkbfaaDoorTie
import Derived.SevenTiedAt
namespace Go.Proofs.YteilkcdbdpkbfaaDoor
open Go.RowKit
set_option linter.unusedVariables false
set_option linter.unusedSimpArgs false
theorem NodeR.in_grow {S : Nat → Prop} {w w' : World} (hg : Grow w w') {n : NodeR} {v : Value} (h : n.In S w v) : n.In S w' v := NodeR.In.grow hg h
set_option maxRecDepth 100000 in
set_option maxHeartbeats 8000000 in
theorem Groups_false (s : ByteArray) (w : World) (l0 : s.size ≤ 140737488351232) (ht1 : tabSpace w) (ht2 : tabPow w) :
    Calls Tryd.prog 5 #[.string s, .bool false] w fun e w' => e = .returned (.bool true) ∧ Below w.heap.size w w' := by
  have HW := hid (fun w' (g : Grow w w') => awake_c w' (tab_grow ht1 g) (tab_grow ht2 g))
  have ls : (s.size : Int) ≤ 140737488351232 := by omega
  have HPA := hid (fun w' => Parse_c (⟨#[]⟩ ++ s) w' (by have h1 : ByteArray.size ⟨#[]⟩ = 0 := rfl; rw [app_size]; omega))
  have HPB := hid (fun w' => Parse_c (⟨#[]⟩ ++ ⟨#[40]⟩ ++ s ++ ⟨#[41]⟩) w' (by have h1 : ByteArray.size ⟨#[]⟩ = 0 := rfl; have h2 : ByteArray.size ⟨#[40]⟩ = 1 := rfl; have h3 : ByteArray.size ⟨#[41]⟩ = 1 := rfl; rw [app_size, app_size, app_size]; omega))
  have FA := hid (parseP_fit (⟨#[]⟩ ++ s).data.toList)
  have GO := hid (show GroupOk false (parseP (⟨#[]⟩ ++ s).data.toList) (parseP (⟨#[]⟩ ++ ⟨#[40]⟩ ++ s ++ ⟨#[41]⟩).data.toList) from by
    have h := group_law false s.data.toList
    simpa [headG, ByteArray.data_append] using h)
  generalize parseP (⟨#[]⟩ ++ s).data.toList = P at *
  generalize parseP (⟨#[]⟩ ++ ⟨#[40]⟩ ++ s ++ ⟨#[41]⟩).data.toList = Q at *
  obtain ⟨⟨pn, po, pd, pl, pc⟩, pa, pe⟩ := P
  obtain ⟨⟨qn, qo, qd, ql, qc⟩, qa, qe⟩ := Q
  replace l0 := hid l0
  clear ht1 ht2
  go_enter Tryd.func5, Tryd.ntmps5
  go_wp2_with fail
  refine (HPA.out _).mono ?_
  rintro e w1 ⟨v, rfl, ⟨c0, c1, c2, c3, c4, rfl, hin⟩, g1⟩
  simp only at hin ⊢
  obtain ⟨uk, up, un, uc, uf, us, ux, e⟩ := NodeR.In.value hin
  simp only [Value.agg.injEq, Array.mk.injEq, List.cons.injEq, and_true] at e
  obtain ⟨rfl, rfl, rfl, rfl, rfl⟩ := e
  have G1 := hid (g1.trans (Grow.alloc w1 (.cells #[.int .i64 uk, .slice up un uc, .string uf, .string us, .int .i64 ux, .string po, .bool pd, .int .i64 pl, .bool pc] 26)))
  have NA := hid (fun w' (g : Grow w1 w') => NodeR.In.grow g hin)
  have hA := hid (heap_new w1 (.cells #[.int .i64 uk, .slice up un uc, .string uf, .string us, .int .i64 ux, .string po, .bool pd, .int .i64 pl, .bool pc] 26))
  clear g1 hin
  go_wp2_with fail
  refine (HPB.out _).mono ?_
  rintro e w2 ⟨v, rfl, ⟨c0, c1, c2, c3, c4, rfl, hin⟩, g2⟩
  simp only at hin ⊢
  obtain ⟨vk, vp, vn, vc, vf, vs, vx, e⟩ := NodeR.In.value hin
  simp only [Value.agg.injEq, Array.mk.injEq, List.cons.injEq, and_true] at e
  obtain ⟨rfl, rfl, rfl, rfl, rfl⟩ := e
  have GB := hid (Grow.alloc w2 (.cells #[.int .i64 vk, .slice vp vn vc, .string vf, .string vs, .int .i64 vx, .string qo, .bool qd, .int .i64 ql, .bool qc] 26))
  have G2 := hid ((G1.out.trans g2).trans GB.out)
  have hA2 := hid (g2.heap hA.out)
  have NA2 := hid (NA.out _ (((Grow.alloc w1 (.cells #[.int .i64 uk, .slice up un uc, .string uf, .string us, .int .i64 ux, .string po, .bool pd, .int .i64 pl, .bool pc] 26)).trans g2).trans GB.out))
  have NB2 := hid (NodeR.in_grow GB.out hin)
  have hz := heap_lt hA2.out
  have QC := hid (Queries_c ⟨pn, po, pd, pl, pc⟩ ⟨qn, qo, qd, ql, qc⟩ _ _ _ _ _ FA.out.1 ⟨_, _, _, _, _, rfl, NA2.out⟩ ⟨_, _, _, _, _, rfl, NB2.out⟩)
  clear g2 hin NA NA2 NB2 hA HPA HPB FA
  have p0 : w2.cell? ⟨w1.heap.size, 0, none⟩ = some (.int .i64 uk) := by rw [heap_cell hA2.out]; rfl
  have p1 : w2.cell? ⟨w1.heap.size, 1, none⟩ = some (.slice up un uc) := by rw [heap_cell hA2.out]; rfl
  have p2 : w2.cell? ⟨w1.heap.size, 2, none⟩ = some (.string uf) := by rw [heap_cell hA2.out]; rfl
  have p3 : w2.cell? ⟨w1.heap.size, 3, none⟩ = some (.string us) := by rw [heap_cell hA2.out]; rfl
  have p4 : w2.cell? ⟨w1.heap.size, 4, none⟩ = some (.int .i64 ux) := by rw [heap_cell hA2.out]; rfl
  have p5 : w2.cell? ⟨w1.heap.size, 5, none⟩ = some (.string po) := by rw [heap_cell hA2.out]; rfl
  have p6 : w2.cell? ⟨w1.heap.size, 6, none⟩ = some (.bool pd) := by rw [heap_cell hA2.out]; rfl
  have p7 : w2.cell? ⟨w1.heap.size, 7, none⟩ = some (.int .i64 pl) := by rw [heap_cell hA2.out]; rfl
  have p8 : w2.cell? ⟨w1.heap.size, 8, none⟩ = some (.bool pc) := by rw [heap_cell hA2.out]; rfl
  generalize w1.heap.size = K at *
  by_cases hp : pe = 0
  rotate_left
  · have hd1 : ((pe : Int) != 0) = true := by simpa using hp
    clear hp GO QC
    go_wp2_with fail
    refine (HW.out _ G2.out).mono ?_
    rintro e w3 ⟨rfl, g3⟩
    go_wp2_with fail
    go_ret
    exact ⟨rfl, G2.out.trans g3⟩
  subst hp
  by_cases hq : qe = 0
  · subst hq
    have hqq := GO.out
    simp only [GroupOk, ne_eq, not_true_eq_false, false_or, true_and, false_and, or_false] at hqq
    rw [(sameQ_iff _ _).2 hqq] at QC
    clear hqq GO
    go_wp2_with fail
    refine QC.out.mono ?_
    rintro e w3 ⟨rfl, g3⟩
    go_wp2_with fail
    refine (HW.out _ (G2.out.trans g3)).mono ?_
    rintro e w4 ⟨rfl, g4⟩
    go_wp2_with fail
    go_ret
    exact ⟨rfl, (G2.out.trans g3).trans g4⟩
  have hqe : ((qe : Int) != 0) = true := by simpa using hq
  have hd := GO.out
  simp only [GroupOk, ne_eq, not_true_eq_false, false_or, hq, false_and, not_false_eq_true, true_and] at hd
  clear GO QC hq
  replace hd := hid hd
  by_cases ho : po = ⟨#[]⟩
  rotate_left
  · have hd1 := str_neQ ho
    have hd2 : ¬po.toList = [] := fun e => ho (toList_injQ (by rw [e]; simp [ByteArray.toList_eq]))
    clear hd
    go_wp2_with fail
    refine (HW.out _ G2.out).mono ?_
    rintro e w3 ⟨rfl, g3⟩
    go_wp2_with fail
    go_ret
    exact ⟨rfl, G2.out.trans g3⟩
  have hd3 : po.toList = [] := by rw [ho]; simp [ByteArray.toList_eq]
  by_cases hl : 0 ≤ pl
  · have hd1 : decide (0 ≤ pl) = true := by simpa using hl
    clear hd
    go_wp2_with fail
    refine (HW.out _ G2.out).mono ?_
    rintro e w3 ⟨rfl, g3⟩
    go_wp2_with fail
    go_ret
    exact ⟨rfl, G2.out.trans g3⟩
  have hl1 : decide (0 ≤ pl) = false := by simpa using hl
  have hl2 : pl < 0 := by omega
  by_cases h4 : qe = 44
  · subst h4
    clear hd
    go_wp2_with fail
    refine (HW.out _ G2.out).mono ?_
    rintro e w3 ⟨rfl, g3⟩
    go_wp2_with fail
    go_ret
    exact ⟨rfl, G2.out.trans g3⟩
  by_cases h2 : qe = 2
  · subst h2
    clear hd
    go_wp2_with fail
    refine (HW.out _ G2.out).mono ?_
    rintro e w3 ⟨rfl, g3⟩
    go_wp2_with fail
    go_ret
    exact ⟨rfl, G2.out.trans g3⟩
  have k4 : ¬(qe : Int) = 44 := by omega
  have k2 : ¬(qe : Int) = 2 := by omega
  have hc : pc = true := by
    have := hd.out
    simpa [ho, hl, h4, h2] using this
  subst hc
  clear hd ho h4 h2
  go_wp2_with fail
  refine (HW.out _ G2.out).mono ?_
  rintro e w3 ⟨rfl, g3⟩
  go_wp2_with fail
  go_ret
  exact ⟨rfl, G2.out.trans g3⟩
set_option maxRecDepth 100000 in
set_option maxHeartbeats 8000000 in
theorem Groups_true (s : ByteArray) (w : World) (l0 : s.size ≤ 140737488351232) (ht1 : tabSpace w) (ht2 : tabPow w) :
    Calls Tryd.prog 5 #[.string s, .bool true] w fun e w' => e = .returned (.bool true) ∧ Below w.heap.size w w' := by
  have HW := hid (fun w' (g : Grow w w') => awake_c w' (tab_grow ht1 g) (tab_grow ht2 g))
  have ls : (s.size : Int) ≤ 140737488351232 := by omega
  have HPA := hid (fun w' => Parse_c (⟨#[99, 111, 117, 110, 116, 32]⟩ ++ s) w' (by have h1 : ByteArray.size ⟨#[99, 111, 117, 110, 116, 32]⟩ = 6 := rfl; rw [app_size]; omega))
  have HPB := hid (fun w' => Parse_c (⟨#[99, 111, 117, 110, 116, 32]⟩ ++ ⟨#[40]⟩ ++ s ++ ⟨#[41]⟩) w' (by have h1 : ByteArray.size ⟨#[99, 111, 117, 110, 116, 32]⟩ = 6 := rfl; have h2 : ByteArray.size ⟨#[40]⟩ = 1 := rfl; have h3 : ByteArray.size ⟨#[41]⟩ = 1 := rfl; rw [app_size, app_size, app_size]; omega))
  have FA := hid (parseP_fit (⟨#[99, 111, 117, 110, 116, 32]⟩ ++ s).data.toList)
  have GO := hid (show GroupOk true (parseP (⟨#[99, 111, 117, 110, 116, 32]⟩ ++ s).data.toList) (parseP (⟨#[99, 111, 117, 110, 116, 32]⟩ ++ ⟨#[40]⟩ ++ s ++ ⟨#[41]⟩).data.toList) from by
    have h := group_law true s.data.toList
    simpa [headG, ByteArray.data_append] using h)
  generalize parseP (⟨#[99, 111, 117, 110, 116, 32]⟩ ++ s).data.toList = P at *
  generalize parseP (⟨#[99, 111, 117, 110, 116, 32]⟩ ++ ⟨#[40]⟩ ++ s ++ ⟨#[41]⟩).data.toList = Q at *
  obtain ⟨⟨pn, po, pd, pl, pc⟩, pa, pe⟩ := P
  obtain ⟨⟨qn, qo, qd, ql, qc⟩, qa, qe⟩ := Q
  replace l0 := hid l0
  clear ht1 ht2
  go_enter Tryd.func5, Tryd.ntmps5
  go_wp2_with fail
  refine (HPA.out _).mono ?_
  rintro e w1 ⟨v, rfl, ⟨c0, c1, c2, c3, c4, rfl, hin⟩, g1⟩
  simp only at hin ⊢
  obtain ⟨uk, up, un, uc, uf, us, ux, e⟩ := NodeR.In.value hin
  simp only [Value.agg.injEq, Array.mk.injEq, List.cons.injEq, and_true] at e
  obtain ⟨rfl, rfl, rfl, rfl, rfl⟩ := e
  have G1 := hid (g1.trans (Grow.alloc w1 (.cells #[.int .i64 uk, .slice up un uc, .string uf, .string us, .int .i64 ux, .string po, .bool pd, .int .i64 pl, .bool pc] 26)))
  have NA := hid (fun w' (g : Grow w1 w') => NodeR.In.grow g hin)
  have hA := hid (heap_new w1 (.cells #[.int .i64 uk, .slice up un uc, .string uf, .string us, .int .i64 ux, .string po, .bool pd, .int .i64 pl, .bool pc] 26))
  clear g1 hin
  go_wp2_with fail
  refine (HPB.out _).mono ?_
  rintro e w2 ⟨v, rfl, ⟨c0, c1, c2, c3, c4, rfl, hin⟩, g2⟩
  simp only at hin ⊢
  obtain ⟨vk, vp, vn, vc, vf, vs, vx, e⟩ := NodeR.In.value hin
  simp only [Value.agg.injEq, Array.mk.injEq, List.cons.injEq, and_true] at e
  obtain ⟨rfl, rfl, rfl, rfl, rfl⟩ := e
  have GB := hid (Grow.alloc w2 (.cells #[.int .i64 vk, .slice vp vn vc, .string vf, .string vs, .int .i64 vx, .string qo, .bool qd, .int .i64 ql, .bool qc] 26))
  have G2 := hid ((G1.out.trans g2).trans GB.out)
  have hA2 := hid (g2.heap hA.out)
  have NA2 := hid (NA.out _ (((Grow.alloc w1 (.cells #[.int .i64 uk, .slice up un uc, .string uf, .string us, .int .i64 ux, .string po, .bool pd, .int .i64 pl, .bool pc] 26)).trans g2).trans GB.out))
  have NB2 := hid (NodeR.in_grow GB.out hin)
  have hz := heap_lt hA2.out
  have QC := hid (Queries_c ⟨pn, po, pd, pl, pc⟩ ⟨qn, qo, qd, ql, qc⟩ _ _ _ _ _ FA.out.1 ⟨_, _, _, _, _, rfl, NA2.out⟩ ⟨_, _, _, _, _, rfl, NB2.out⟩)
  clear g2 hin NA NA2 NB2 hA HPA HPB FA
  have p0 : w2.cell? ⟨w1.heap.size, 0, none⟩ = some (.int .i64 uk) := by rw [heap_cell hA2.out]; rfl
  have p1 : w2.cell? ⟨w1.heap.size, 1, none⟩ = some (.slice up un uc) := by rw [heap_cell hA2.out]; rfl
  have p2 : w2.cell? ⟨w1.heap.size, 2, none⟩ = some (.string uf) := by rw [heap_cell hA2.out]; rfl
  have p3 : w2.cell? ⟨w1.heap.size, 3, none⟩ = some (.string us) := by rw [heap_cell hA2.out]; rfl
  have p4 : w2.cell? ⟨w1.heap.size, 4, none⟩ = some (.int .i64 ux) := by rw [heap_cell hA2.out]; rfl
  have p5 : w2.cell? ⟨w1.heap.size, 5, none⟩ = some (.string po) := by rw [heap_cell hA2.out]; rfl
  have p6 : w2.cell? ⟨w1.heap.size, 6, none⟩ = some (.bool pd) := by rw [heap_cell hA2.out]; rfl
  have p7 : w2.cell? ⟨w1.heap.size, 7, none⟩ = some (.int .i64 pl) := by rw [heap_cell hA2.out]; rfl
  have p8 : w2.cell? ⟨w1.heap.size, 8, none⟩ = some (.bool pc) := by rw [heap_cell hA2.out]; rfl
  generalize w1.heap.size = K at *
  by_cases hp : pe = 0
  rotate_left
  · have hd1 : ((pe : Int) != 0) = true := by simpa using hp
    clear hp GO QC
    go_wp2_with fail
    refine (HW.out _ G2.out).mono ?_
    rintro e w3 ⟨rfl, g3⟩
    go_wp2_with fail
    go_ret
    exact ⟨rfl, G2.out.trans g3⟩
  subst hp
  by_cases hq : qe = 0
  · subst hq
    have hqq := GO.out
    simp only [GroupOk, ne_eq, not_true_eq_false, false_or, true_and, false_and, or_false] at hqq
    rw [(sameQ_iff _ _).2 hqq] at QC
    clear hqq GO
    go_wp2_with fail
    refine QC.out.mono ?_
    rintro e w3 ⟨rfl, g3⟩
    go_wp2_with fail
    refine (HW.out _ (G2.out.trans g3)).mono ?_
    rintro e w4 ⟨rfl, g4⟩
    go_wp2_with fail
    go_ret
    exact ⟨rfl, (G2.out.trans g3).trans g4⟩
  have hqe : ((qe : Int) != 0) = true := by simpa using hq
  have hd := GO.out
  simp only [GroupOk, ne_eq, not_true_eq_false, false_or, hq, false_and, not_false_eq_true, true_and] at hd
  clear GO QC hq
  replace hd := hid hd
  by_cases ho : po = ⟨#[]⟩
  rotate_left
  · have hd1 := str_neQ ho
    have hd2 : ¬po.toList = [] := fun e => ho (toList_injQ (by rw [e]; simp [ByteArray.toList_eq]))
    clear hd
    go_wp2_with fail
    refine (HW.out _ G2.out).mono ?_
    rintro e w3 ⟨rfl, g3⟩
    go_wp2_with fail
    go_ret
    exact ⟨rfl, G2.out.trans g3⟩
  have hd3 : po.toList = [] := by rw [ho]; simp [ByteArray.toList_eq]
  by_cases hl : 0 ≤ pl
  · have hd1 : decide (0 ≤ pl) = true := by simpa using hl
    clear hd
    go_wp2_with fail
    refine (HW.out _ G2.out).mono ?_
    rintro e w3 ⟨rfl, g3⟩
    go_wp2_with fail
    go_ret
    exact ⟨rfl, G2.out.trans g3⟩
  have hl1 : decide (0 ≤ pl) = false := by simpa using hl
  have hl2 : pl < 0 := by omega
  by_cases h4 : qe = 44
  · subst h4
    clear hd
    go_wp2_with fail
    refine (HW.out _ G2.out).mono ?_
    rintro e w3 ⟨rfl, g3⟩
    go_wp2_with fail
    go_ret
    exact ⟨rfl, G2.out.trans g3⟩
  by_cases h2 : qe = 2
  · subst h2
    clear hd
    go_wp2_with fail
    refine (HW.out _ G2.out).mono ?_
    rintro e w3 ⟨rfl, g3⟩
    go_wp2_with fail
    go_ret
    exact ⟨rfl, G2.out.trans g3⟩
  have k4 : ¬(qe : Int) = 44 := by omega
  have k2 : ¬(qe : Int) = 2 := by omega
  exact absurd hd.out (by simp [ho, hl, h4, h2])
theorem Groups_walk (s : ByteArray) (c : Bool) (w : World) (l0 : s.size ≤ 140737488351232) (ht1 : tabSpace w) (ht2 : tabPow w) :
    Calls Tryd.prog 5 #[.string s, .bool c] w fun e w' => e = .returned (.bool true) ∧ Below w.heap.size w w' := by
  cases c with
  | false => exact Groups_false s w l0 ht1 ht2
  | true => exact Groups_true s w l0 ht1 ht2
namespace LawQueryGroups
open Go.ChangeShapes Go.WideShapes Go.ChangeAt Go.RowKit
open Go.ChangeMaps (open_string shut_string)
theorem own : ownKnob Tryd.prog.godebug = none := by kernel_rfl
theorem laidOut : laidOutB Tryd.prog = true := by kernel_rfl
set_option maxRecDepth 100000 in
theorem lifted (os : Os) (started : os.Started) (H : Type) (enc : TypeId × Value → H) :
    ReturnsInHanded {} Tryd.checked os 5 .any (fun w args => (Rows.queryGroupsSpec.pre enc Tryd.prog Tryd.f5 [] false w args ∧ laidMetH Tryd.prog laidL w) ∧ sizedMet enc Tryd.prog Tryd.f5 (OpenSpec.ofChange Rows.queryGroupsSpec) false w args) (Rows.queryGroupsSpec.post enc Tryd.prog Tryd.f5 false true false false) := by
  refine returnsInHanded_of_change_and (C := Tryd.checked) (X := fun w _ => laidMetH Tryd.prog laidL w) (fun _ _ _ hh h => h.of_heap hh) own started (by kernel_rfl) Tryd.func5
    (ChangeSpec.witness_shaped (enc := enc) (C := Tryd.checked) (os := os) (X := fun w _ => laidMetH Tryd.prog laidL w) false (World.doorLaid Tryd.prog 48 os) #[.string ByteArray.empty, .bool false] 8 rfl (World.shaped_of_RefB (by kernel_rfl) (by kernel_rfl)) (by kernel_rfl) (by kernel_rfl) (by kernel_rfl) (door_met os _)) ?_
  intro W base args ds gs before hval0 hW hcnd hsz hL _
  have hval : ∀ (j : Nat) t v, Tryd.f5.params[j]? = some t → args[j]? = some v → Value.okWide Tryd.prog W .any base t v := hval0
  obtain ⟨ht1, ht2⟩ := tabs_of_laid hL
  have hW' := hW
  obtain ⟨p, q, hA0, hV, rfl, hfz, hnd⟩ := hW
  have hA : DataW.TrodAll enc Tryd.prog W 0 (fun _ => true) true Tryd.f5.params.toList args.toList ds p := hA0
  rw [Tryd.params5] at hA hval hsz
  obtain ⟨v0, vs0, d0, ds0, p0, q0, hargs, rfl, rfl, h0, r0⟩ := trodAll_cons hA
  obtain ⟨v1, vs1, d1, ds1, p1, q1, rfl, rfl, rfl, h1, r1⟩ := trodAll_cons r0
  obtain ⟨rfl, rfl, rfl⟩ := trodAll_nil r1
  obtain rfl : args = #[v0, v1] := by cases args; simp_all
  obtain ⟨rfl, rfl⟩ := trodVars_none hV
  obtain ⟨a0, rfl, rfl, rfl, w0⟩ := open_string Tryd.underlying9 (hval 0 9 v0 rfl rfl) h0
  have z0 : a0.size ≤ 140737488351232 := by
    have h := sized_string hsz (j := 0) (t := 9) (bytes := a0.data.toList) rfl rfl
    simpa [reachBytes] using h
  obtain ⟨a1, rfl, rfl, rfl⟩ := open_bool Tryd.underlying4 (hval 1 4 v1 rfl rfl) h1
  clear hA0 hval0
  refine (Groups_walk a0 a1  W z0  ht1 ht2).mono fun e W' ⟨he, bel⟩ => ?_
  subst he
  exact ⟨_, rfl, _, _, _, [], _, [], hW', trodAll_mk1 (shut_bool Tryd.underlying4 _), (trodAll_cons_mk (shut_string Tryd.underlying9 w0) (trodAll_cons_mk (shut_bool Tryd.underlying4 _) trodAll_mk0)), rfl, bel.frame _, fun h => by cases h⟩
theorem over : Rows.queryGroupsRow.holds Tryd.pinned (OpenSpec.ofChange Rows.queryGroupsSpec) :=
  OpenClaim.holds_of_wide 5 Tryd.f5 rfl rfl rfl rfl rfl rfl rfl ⟨rfl, rfl, rfl, rfl, rfl⟩ rfl rfl rfl rfl rfl (by kernel_rfl) Tryd.func5 (by kernel_rfl)
    (of_decide_eq_true (by kernel_rfl)) (by unfold Func.isWrapper; first | (rw [if_pos (by decide +kernel)]; kernel_rfl) | (rw [if_neg (by decide +kernel)]; exact ⟨rfl, rfl⟩))
    (fun os started H enc _ => lifted os started H enc)
end LawQueryGroups
/-- The given statement: the tied card. -/
theorem queryGroups_proved : Rows.QueryGroupsCardSaid :=
  Claim7.holds_tied_plain_at .later [] [.data, .data, .data, .listed, .data] true (true, "95201100b90d23e864d10c69b3da32f70030d937e4d7b485caf5136514669ad6") true
    LawQueryGroups.over (fun _ h => by cases h) (by kernel_rfl) (fun _ h => by cases h) queryGroups_row_tie rfl ⟨rfl, rfl⟩ (by kernel_rfl) rfl
    (fun f fn hf hfn => by
      obtain rfl : f = 5 := Option.some.inj ((show Tryd.prog.funcNamed Rows.queryGroupsRow.func = some 5 by kernel_rfl).symm.trans hf) |>.symm
      obtain rfl : fn = Tryd.f5 := (Option.some.inj (Tryd.func5.symm.trans hfn)).symm
      exact ⟨by kernel_rfl, fun j t ht => by
        rw [Tryd.params5] at ht
        have hm : t ∈ [9, 4] := by simpa using Array.mem_of_getElem? ht
        have hall : ([9, 4].all fun u => !Tryd.prog.wantsStandIn u) = true := by kernel_rfl
        exact (show Tryd.prog.wantsStandIn t = false by simpa using List.all_eq_true.1 hall t hm)⟩)
    (by kernel_rfl)
#print axioms queryGroups_proved
end Go.Proofs.YteilkcdbdpkbfaaDoor
