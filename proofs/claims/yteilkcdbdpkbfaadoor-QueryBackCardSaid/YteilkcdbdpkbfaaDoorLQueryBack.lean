/- The law of reading back what is printed: for every text that came in; the tied card. The package variables are what the card ties to the program's text. -/
import Derived.Test.YteilkcdbdpkbfaaDoorQAwake
import Derived.Test.YteilkcdbdpkbfaaDoorQSize
import Derived.Test.YteilkcdbdpkbfaaDoorQBackP
import Derived.Test.YteilkcdbdpkbfaaDoorQLaid
import Derived.Test.YteilkcdbdpkbfaaDoorQRParse
import Derived.Test.YteilkcdbdpkbfaaDoorRely
import Derived.Test.YteilkcdbdpkbfaaDoorCards
import Derived.Test.YteilkcdbdpkbfaaDoorTie
import Derived.SevenTiedAt
namespace Go.Proofs.YteilkcdbdpkbfaaDoor
open Go.RowKit
set_option linter.unusedVariables false
set_option linter.unusedSimpArgs false
theorem print_back {S : List UInt8} {q : QueryR} {a : Nat} (hp : parseP S = ⟨q, a, 0⟩) (hS : S.length ≤ 1200) : printP q = (printB q, 0) := by
  have hb := back_law hp hS
  have hf := parseP_fit S
  rw [hp] at hf
  have hl : -1 ≤ q.limit := hf.2.2.2.1
  unfold printP
  rw [hb, if_pos]
  have h1 : sameN q.whr q.whr = true := (sameN_iff _ _).2 rfl
  have h3 : maxI q.limit = q.limit := by
    unfold maxI
    rw [if_pos hl]
  simp [okP, h1, h3]
set_option maxRecDepth 100000 in
set_option maxHeartbeats 8000000 in
theorem Back_walk (s : ByteArray) (w : World) (l0 : s.size ≤ 140737488351232) (ht1 : tabSpace w) (ht2 : tabPow w) :
    Calls Tryd.prog 4 #[.string s] w fun e w' => e = .returned (.bool true) ∧ Below w.heap.size w w' := by
  have HW := hid (fun w' (g : Grow w w') => awake_c w' (tab_grow ht1 g) (tab_grow ht2 g))
  have HPA := hid (RParse_c s w l0)
  have HT := hid (show tabSpace w ∧ tabPow w from ⟨ht1, ht2⟩)
  have ls : (s.size : Int) ≤ 140737488351232 := by omega
  have FA := hid (parseP_fit s.data.toList)
  clear ht1 ht2
  generalize hP : parseP s.data.toList = P at *
  replace hP := hid hP
  obtain ⟨⟨n, o, d, l, c⟩, pa, pe⟩ := P
  replace l0 := hid l0
  go_enter Tryd.func4, Tryd.ntmps4
  go_wp2_with fail
  refine HPA.out.mono ?_
  rintro e w1 ⟨v, rfl, ⟨c0, c1, c2, c3, c4, rfl, hin⟩, g1⟩
  simp only at hin ⊢
  obtain ⟨uk, up, un, uc, uf, us, ux, e⟩ := NodeR.In.value hin
  simp only [Value.agg.injEq, Array.mk.injEq, List.cons.injEq, and_true] at e
  obtain ⟨rfl, rfl, rfl, rfl, rfl⟩ := e
  have hA := hid (heap_new w1 (.cells #[.int .i64 uk, .slice up un uc, .string uf, .string us, .int .i64 ux, .string o, .bool d, .int .i64 l, .bool c] 26))
  have gA := hid (Grow.alloc w1 (.cells #[.int .i64 uk, .slice up un uc, .string uf, .string us, .int .i64 ux, .string o, .bool d, .int .i64 l, .bool c] 26))
  have G1 := hid (g1.trans gA.out)
  have NA := hid (NodeR.In.grow gA.out hin)
  clear hin g1 HPA
  by_cases he : pe = 0
  rotate_left
  · have hd1 : ((pe : Int) != 0) = true := by simpa using he
    clear he
    go_wp2_with fail
    refine (HW.out _ G1.out).mono ?_
    rintro e w3 ⟨rfl, g3⟩
    go_wp2_with fail
    go_ret
    exact ⟨rfl, G1.out.trans g3⟩
  subst he
  by_cases hl : 1200 < s.size
  · have hl1 : (1200 : Int) < s.size := by omega
    go_wp2_with fail
    refine (HW.out _ G1.out).mono ?_
    rintro e w3 ⟨rfl, g3⟩
    go_wp2_with fail
    go_ret
    exact ⟨rfl, G1.out.trans g3⟩
  have hl1 : ¬(1200 : Int) < s.size := by omega
  have hl2 : (s.size : Int) ≤ 1200 := by omega
  have hS : s.data.toList.length ≤ 1200 := by simp; omega
  have hcan := can_of_parse hP.out
  have hpr := print_back hP.out hS
  have hbl := back_law hP.out hS
  have hbs := printB_size hcan
  have PR := fun (u : Value) (S : Nat → Prop) (w2 : World) (g : Grow w w2) (hi : (⟨n, o, d, l, c⟩ : QueryR).In S w2 u) => Print_c ⟨n, o, d, l, c⟩ hcan S u w2 (tab_grow HT.out.1 g) (tab_grow HT.out.2 g) hi
  rw [hpr] at PR
  replace PR := hid PR
  have PB := fun w2 => Parse_c (printB ⟨n, o, d, l, c⟩) w2 (by omega)
  rw [hbl] at PB
  replace PB := hid PB
  clear hpr hbl hcan hS hl HT
  generalize printB ⟨n, o, d, l, c⟩ = TB at *
  have hbs2 : (TB.size : Int) ≤ 140771848089900 := by omega
  have P1 := hid (PR.out _ _ _ G1.out ⟨_, _, _, _, _, rfl, NA.out⟩)
  have hzA := heap_lt hA.out
  go_wp2_with fail
  refine P1.out.mono ?_
  rintro e w2 ⟨rfl, g2⟩
  have hA2 := hid (g2.heap hA.out)
  have G2 := hid (G1.out.trans g2)
  have NA2 := hid (NodeR.In.grow g2 NA.out)
  clear g2 P1 NA hA gA G1 hzA
  generalize w1.heap.size = H at *
  go_wp2_with fail
  refine (PB.out _).mono ?_
  rintro e w3 ⟨v, rfl, ⟨c0, c1, c2, c3, c4, rfl, hin⟩, g3⟩
  simp only at hin ⊢
  obtain ⟨vk, vp, vn, vc, vf, vs, vx, e⟩ := NodeR.In.value hin
  simp only [Value.agg.injEq, Array.mk.injEq, List.cons.injEq, and_true] at e
  obtain ⟨rfl, rfl, rfl, rfl, rfl⟩ := e
  have gB := Grow.alloc w3 (.cells #[.int .i64 vk, .slice vp vn vc, .string vf, .string vs, .int .i64 vx, .string o, .bool d, .int .i64 l, .bool c] 26)
  have hB := hid (heap_new w3 (.cells #[.int .i64 vk, .slice vp vn vc, .string vf, .string vs, .int .i64 vx, .string o, .bool d, .int .i64 l, .bool c] 26))
  have hA3 := hid (heap_alloc_keep (g3.heap hA2.out) (.cells #[.int .i64 vk, .slice vp vn vc, .string vf, .string vs, .int .i64 vx, .string o, .bool d, .int .i64 l, .bool c] 26))
  have G3 := hid ((G2.out.trans g3).trans gB)
  have NA3 := hid (NodeR.In.grow (g3.trans gB) NA2.out)
  have NB3 := hid (NodeR.In.grow gB hin)
  have P2 := hid (PR.out _ _ _ G3.out ⟨_, _, _, _, _, rfl, NB3.out⟩)
  have hzB := heap_lt hB.out
  clear g3 gB hin hA2 G2 NA2 PB PR
  go_wp2_with fail
  refine P2.out.mono ?_
  rintro e w4 ⟨rfl, g4⟩
  have hA4 := hid (g4.heap hA3.out)
  have hB4 := hid (g4.heap hB.out)
  have G4 := hid (G3.out.trans g4)
  have QS := Queries_c ⟨n, o, d, l, c⟩ ⟨n, o, d, l, c⟩ _ _ _ _ w4 FA.out.1 ⟨_, _, _, _, _, rfl, NodeR.In.grow g4 NB3.out⟩ ⟨_, _, _, _, _, rfl, NodeR.In.grow g4 NA3.out⟩
  rw [(sameQ_iff _ _).2 rfl] at QS
  replace QS := hid QS
  clear g4 P2 hzB hA3 hB NA3 NB3 G3
  generalize w3.heap.size = K at *
  have q0 : w4.cell? ⟨H, 0, none⟩ = some (.int .i64 uk) := by rw [heap_cell hA4.out]; rfl
  have q1 : w4.cell? ⟨H, 1, none⟩ = some (.slice up un uc) := by rw [heap_cell hA4.out]; rfl
  have q2 : w4.cell? ⟨H, 2, none⟩ = some (.string uf) := by rw [heap_cell hA4.out]; rfl
  have q3 : w4.cell? ⟨H, 3, none⟩ = some (.string us) := by rw [heap_cell hA4.out]; rfl
  have q4 : w4.cell? ⟨H, 4, none⟩ = some (.int .i64 ux) := by rw [heap_cell hA4.out]; rfl
  have q5 : w4.cell? ⟨H, 5, none⟩ = some (.string o) := by rw [heap_cell hA4.out]; rfl
  have q6 : w4.cell? ⟨H, 6, none⟩ = some (.bool d) := by rw [heap_cell hA4.out]; rfl
  have q7 : w4.cell? ⟨H, 7, none⟩ = some (.int .i64 l) := by rw [heap_cell hA4.out]; rfl
  have q8 : w4.cell? ⟨H, 8, none⟩ = some (.bool c) := by rw [heap_cell hA4.out]; rfl
  have p0 : w4.cell? ⟨K, 0, none⟩ = some (.int .i64 vk) := by rw [heap_cell hB4.out]; rfl
  have p1 : w4.cell? ⟨K, 1, none⟩ = some (.slice vp vn vc) := by rw [heap_cell hB4.out]; rfl
  have p2 : w4.cell? ⟨K, 2, none⟩ = some (.string vf) := by rw [heap_cell hB4.out]; rfl
  have p3 : w4.cell? ⟨K, 3, none⟩ = some (.string vs) := by rw [heap_cell hB4.out]; rfl
  have p4 : w4.cell? ⟨K, 4, none⟩ = some (.int .i64 vx) := by rw [heap_cell hB4.out]; rfl
  have p5 : w4.cell? ⟨K, 5, none⟩ = some (.string o) := by rw [heap_cell hB4.out]; rfl
  have p6 : w4.cell? ⟨K, 6, none⟩ = some (.bool d) := by rw [heap_cell hB4.out]; rfl
  have p7 : w4.cell? ⟨K, 7, none⟩ = some (.int .i64 l) := by rw [heap_cell hB4.out]; rfl
  have p8 : w4.cell? ⟨K, 8, none⟩ = some (.bool c) := by rw [heap_cell hB4.out]; rfl
  have hzq := heap_lt hA4.out
  have hzp := heap_lt hB4.out
  go_wp2_with fail
  refine QS.out.mono ?_
  rintro e w5 ⟨rfl, g5⟩
  go_wp2_with fail
  refine (HW.out _ (G4.out.trans g5)).mono ?_
  rintro e w6 ⟨rfl, g6⟩
  go_wp2_with fail
  go_ret
  exact ⟨rfl, (G4.out.trans g5).trans g6⟩
namespace LawQueryBack
open Go.ChangeShapes Go.WideShapes Go.ChangeAt Go.RowKit
open Go.ChangeMaps (open_string shut_string)
theorem own : ownKnob Tryd.prog.godebug = none := by kernel_rfl
theorem laidOut : laidOutB Tryd.prog = true := by kernel_rfl
set_option maxRecDepth 100000 in
theorem lifted (os : Os) (started : os.Started) (H : Type) (enc : TypeId × Value → H) :
    ReturnsInHanded {} Tryd.checked os 4 .any (fun w args => (Rows.queryBackSpec.pre enc Tryd.prog Tryd.f4 [] false w args ∧ laidMetH Tryd.prog laidL w) ∧ sizedMet enc Tryd.prog Tryd.f4 (OpenSpec.ofChange Rows.queryBackSpec) false w args) (Rows.queryBackSpec.post enc Tryd.prog Tryd.f4 false true false false) := by
  refine returnsInHanded_of_change_and (C := Tryd.checked) (X := fun w _ => laidMetH Tryd.prog laidL w) (fun _ _ _ hh h => h.of_heap hh) own started (by kernel_rfl) Tryd.func4
    (ChangeSpec.witness_shaped (enc := enc) (C := Tryd.checked) (os := os) (X := fun w _ => laidMetH Tryd.prog laidL w) false (World.doorLaid Tryd.prog 48 os) #[.string ByteArray.empty] 8 rfl (World.shaped_of_RefB (by kernel_rfl) (by kernel_rfl)) (by kernel_rfl) (by kernel_rfl) (by kernel_rfl) (door_met os _)) ?_
  intro W base args ds gs before hval0 hW hcnd hsz hL _
  have hval : ∀ (j : Nat) t v, Tryd.f4.params[j]? = some t → args[j]? = some v → Value.okWide Tryd.prog W .any base t v := hval0
  obtain ⟨ht1, ht2⟩ := tabs_of_laid hL
  have hW' := hW
  obtain ⟨p, q, hA0, hV, rfl, hfz, hnd⟩ := hW
  have hA : DataW.TrodAll enc Tryd.prog W 0 (fun _ => true) true Tryd.f4.params.toList args.toList ds p := hA0
  rw [Tryd.params4] at hA hval hsz
  obtain ⟨v0, vs0, d0, ds0, p0, q0, hargs, rfl, rfl, h0, r0⟩ := trodAll_cons hA
  obtain ⟨rfl, rfl, rfl⟩ := trodAll_nil r0
  obtain rfl : args = #[v0] := by cases args; simp_all
  obtain ⟨rfl, rfl⟩ := trodVars_none hV
  obtain ⟨a0, rfl, rfl, rfl, w0⟩ := open_string Tryd.underlying9 (hval 0 9 v0 rfl rfl) h0
  have z0 : a0.size ≤ 140737488351232 := by
    have h := sized_string hsz (j := 0) (t := 9) (bytes := a0.data.toList) rfl rfl
    simpa [reachBytes] using h
  clear hA0 hval0
  refine (Back_walk a0  W z0 ht1 ht2).mono fun e W' ⟨he, bel⟩ => ?_
  subst he
  exact ⟨_, rfl, _, _, _, [], _, [], hW', trodAll_mk1 (shut_bool Tryd.underlying4 _), (trodAll_cons_mk (shut_string Tryd.underlying9 w0) trodAll_mk0), rfl, bel.frame _, fun h => by cases h⟩
theorem over : Rows.queryBackRow.holds Tryd.pinned (OpenSpec.ofChange Rows.queryBackSpec) :=
  OpenClaim.holds_of_wide 4 Tryd.f4 rfl rfl rfl rfl rfl rfl rfl ⟨rfl, rfl, rfl, rfl, rfl⟩ rfl rfl rfl rfl rfl (by kernel_rfl) Tryd.func4 (by kernel_rfl)
    (of_decide_eq_true (by kernel_rfl)) (by unfold Func.isWrapper; first | (rw [if_pos (by decide +kernel)]; kernel_rfl) | (rw [if_neg (by decide +kernel)]; exact ⟨rfl, rfl⟩))
    (fun os started H enc _ => lifted os started H enc)
end LawQueryBack
/-- The given statement: the tied card. -/
theorem queryBack_proved : Rows.QueryBackCardSaid :=
  Claim7.holds_tied_plain_at .later [] [.data, .data, .data, .listed, .data] true (true, "95201100b90d23e864d10c69b3da32f70030d937e4d7b485caf5136514669ad6") true
    LawQueryBack.over (fun _ h => by cases h) (by kernel_rfl) (fun _ h => by cases h) queryBack_row_tie rfl ⟨rfl, rfl⟩ (by kernel_rfl) rfl
    (fun f fn hf hfn => by
      obtain rfl : f = 4 := Option.some.inj ((show Tryd.prog.funcNamed Rows.queryBackRow.func = some 4 by kernel_rfl).symm.trans hf) |>.symm
      obtain rfl : fn = Tryd.f4 := (Option.some.inj (Tryd.func4.symm.trans hfn)).symm
      exact ⟨by kernel_rfl, fun j t ht => by
        rw [Tryd.params4] at ht
        have hm : t ∈ [9] := by simpa using Array.mem_of_getElem? ht
        have hall : ([9].all fun u => !Tryd.prog.wantsStandIn u) = true := by kernel_rfl
        exact (show Tryd.prog.wantsStandIn t = false by simpa using List.all_eq_true.1 hall t hm)⟩)
    (by kernel_rfl)
#print axioms queryBack_proved
end Go.Proofs.YteilkcdbdpkbfaaDoor
