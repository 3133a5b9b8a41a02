/- A step of gen: the answer. -/
import Derived.Test.YtlhgdbangnohjaaGStepA
import Derived.Deep.AppendLies
namespace Go.Proofs.Ytlhgdbangnohjaa
open Go.RowKit
set_option linter.unusedVariables false
set_option linter.unusedSimpArgs false
attribute [local go_sem ↓ high] run_imax
set_option maxRecDepth 100000 in
set_option maxHeartbeats 40000000 in
theorem part4_c {cd : Code} (hcd : funcFrom Try.f28 13 = some cd) {base : Nat} {w wc : World} {c : GenC} {R : GR} {k : Nat} {id : Int} {p n bk pp P : Nat} {RES G1 : GenW} {qi qk qm qar qse : Int} {qd : Bool} {qre qrt IV PT : Int} {XS' : List Int} {p8 : Option Addr} {LN8 cap8 : Nat} {NA : Int} {u10 u11 u12 u13 u14 u15 u16 u17 u18 u19 u20 u21 u22 u23 u24 u25 u26 u27 u28 u29 u30 u31 u32 u33 u34 u35 u36 u37 u38 u39 u40 u41 u42 u43 u44 u45 u46 u47 u48 u49 u50 u51 u52 u53 u54 u55 u56 u57 u58 u59 u60 u61 u62 u63 u64 u65 u66 u67 u68 u69 u70 u71 u72 u73 u74 u75 u76 u77 u78 u79 u80 u81 u82 u83 u84 u85 u86 u87 u88 u89 u90 u91 u92 u93 u94 u95 u96 u97 u98 u99 u100 u101 u102 u103 u104 u105 u106 u107 u108 u109 u110 u111 u112 u114 u115 u116 u117 u118 u119 u120 u121 u122 u123 u124 u125 u126 u127 u128 u129 u130 u131 u132 u133 u134 u135 u136 u137 u138 u139 u140 u141 u142 u143 u144 u145 u146 u147 u148 u149 u150 u151 u152 u153 u154 u155 u156 u157 u158 u159 u160 u161 u162 u163 u164 u165 u166 u167 u168 u169 u170 u171 u172 u173 u174 : Value} (hk : k ≤ 1000) (hok1 : GOk c G1 k) (m1 : bk ≠ R.g) (m2 : bk ≠ R.gs) (m3 : bk ≠ R.gf) (m4 : bk ≠ R.gg) (m5 : bk ≠ R.gst) (hlv : R.lv.ownBlock ≠ some bk) (hbb : base ≤ bk) (hlo1 : base ≤ R.g ∧ base ≤ R.gs ∧ base ≤ R.gf ∧ base ≤ R.gg) (hap : R.g ≠ R.gs ∧ R.g ≠ R.gf ∧ R.g ≠ R.gg ∧ R.g ≠ R.gst ∧ R.gs ≠ R.gf ∧ R.gs ≠ R.gg ∧ R.gs ≠ R.gst ∧ R.gf ≠ R.gg ∧ R.gf ≠ R.gst ∧ R.gg ≠ R.gst) (n1 : R.g ≠ R.gs) (hpP : pp < P) (HP : Hid (c.procs.toNat = P)) (hp0 : (0 : Int) ≤ (pp : Int)) (hp1 : (pp : Int) < (P : Int)) (hpt0 : 1 ≤ PT) (hpt1 : PT ≤ 20 * (k : Int) + 4) (hrd9 : ∀ i, i < c.objects.toNat → ∀ a q m, (R.svs.set n (.slice p8 LN8 cap8)).getD i (.slice none 0 0) = .slice (some a) q m → 0 < q → a.block ≠ bk) (hna : -((k : Int) + 1) ≤ NA ∧ NA ≤ (k : Int) + 4) (HR : Hid (RES = { x := nxt (nxt (nxt (nxt (nxt G1.x)))), free := G1.free.set pp (PT + 1 + belowV (nxt (nxt (nxt G1.x))) 8), gone := G1.gone, states := G1.states.set n XS', now := PT, l := G1.l ++ [if belowV (nxt (nxt (nxt (nxt G1.x)))) 100 < c.wrong then ⟨qi, (pp : Int), (n : Int), qk, qm, qar, qse, true, wrongL ⟨qi, (pp : Int), (n : Int), qk, qm, qar, qse, true, NA, IV, PT + 1 + belowV (nxt (nxt (nxt G1.x))) 8⟩, IV, PT + 1 + belowV (nxt (nxt (nxt G1.x))) 8⟩ else ⟨qi, (pp : Int), (n : Int), qk, qm, qar, qse, true, NA, IV, PT + 1 + belowV (nxt (nxt (nxt G1.x))) 8⟩] })) (g11 : GAt base wc c { R with svs := R.svs.set n (.slice p8 LN8 cap8) } { G1 with x := nxt (nxt (nxt G1.x)), now := PT, states := G1.states.set n XS' }) (o11 : OpBox wc bk ⟨qi, (pp : Int), (n : Int), qk, qm, qar, qse, qd, qre, IV, qrt⟩) (b11 : Below base w wc) : cd.wp Try.prog (bodyPost Try.prog Try.f28 (GStepPost base w c R.g RES)) ⟨List.toArray [.pointer (some ⟨R.g, 0, none⟩), .int .i64 id, undef, undef, .int .i64 (p : Int), .bool true, .pointer (some ⟨bk, 0, none⟩), .int .i64 PT, .slice p8 LN8 cap8, .int .i64 NA, u10, u11, u12, u13, u14, u15, u16, u17, u18, u19, u20, u21, u22, u23, u24, u25, u26, u27, u28, u29, u30, u31, u32, u33, u34, u35, u36, u37, u38, u39, u40, u41, u42, u43, u44, u45, u46, u47, u48, u49, u50, u51, u52, u53, u54, u55, u56, u57, u58, u59, u60, u61, u62, u63, u64, u65, u66, u67, u68, u69, u70, u71, u72, u73, u74, u75, u76, u77, u78, u79, u80, u81, u82, u83, u84, u85, u86, u87, u88, u89, u90, u91, u92, u93, u94, u95, u96, u97, u98, u99, u100, u101, u102, u103, u104, u105, u106, u107, u108, u109, u110, u111, u112, .bool false, u114, u115, u116, u117, u118, u119, u120, u121, u122, u123, u124, u125, u126, u127, u128, u129, u130, u131, u132, u133, u134, u135, u136, u137, u138, u139, u140, u141, u142, u143, u144, u145, u146, u147, u148, u149, u150, u151, u152, u153, u154, u155, u156, u157, u158, u159, u160, u161, u162, u163, u164, u165, u166, u167, u168, u169, u170, u171, u172, u173, u174], []⟩ wc := by
  refine code_of hcd rfl ?_
  clear hcd
  dsimp only
  obtain ⟨RT, hRT⟩ : ∃ z, z = PT + 1 + belowV (nxt (nxt (nxt G1.x))) 8 := ⟨_, rfl⟩
  rw [← hRT] at HR
  obtain ⟨RS, hRS⟩ : ∃ z, z = (if belowV (nxt (nxt (nxt (nxt G1.x)))) 100 < c.wrong then wrongL ⟨qi, (pp : Int), (n : Int), qk, qm, qar, qse, true, NA, IV, RT⟩ else NA) := ⟨_, rfl⟩
  have HR2 : Hid (RES = { x := nxt (nxt (nxt (nxt (nxt G1.x)))), free := G1.free.set pp RT, gone := G1.gone, states := G1.states.set n XS', now := PT, l := G1.l ++ [⟨qi, (pp : Int), (n : Int), qk, qm, qar, qse, true, RS, IV, RT⟩] }) := by
    refine hid ?_
    rw [HR.out, hRS]
    by_cases hw : belowV (nxt (nxt (nxt (nxt G1.x)))) 100 < c.wrong
    · rw [if_pos hw, if_pos hw]
    · rw [if_neg hw, if_neg hw]
  have HRS := hid hRS
  clear HR hRS
  -- region 13: the answer
  have HB13 := hid (fun w' (s : Src w' R.gs (nxt (nxt (nxt G1.x)))) => Below_m (nxt (nxt (nxt G1.x))) 8 R.gs w' (nxt_u _) (by omega) s)
  rw [belV_pos (by omega), belX_pos (by omega)] at HB13
  have v80 := belowV_lo (x := nxt (nxt (nxt G1.x))) (n := 8) (by decide)
  have v88 := belowV_hi (x := nxt (nxt (nxt G1.x))) (n := 8) (by decide)
  generalize belowV (nxt (nxt (nxt G1.x))) 8 = V13 at *
  have hw1 : IntKind.i64.wrap (PT + 1) = PT + 1 := by rw [IntKind.wrap_i64]; omega
  have hw2 : IntKind.i64.wrap (PT + 1 + V13) = RT := by rw [IntKind.wrap_i64]; omega
  clear hRT v80 v88
  have g11' := hid g11
  have o11' := hid o11
  have b11' := hid b11
  have c6 := g11.wc.2.2.2.2.2.2.1
  clear g11 o11 b11
  go_wp2_with fail
  refine (HB13.out wc g11'.out.src).mono ?_
  rintro e w13 ⟨rfl, b13, s13⟩
  have g13 := g11'.out.next b13 s13 (nxt_u _)
  have o13 := o11'.out.only b13 m2
  have b13' := b11'.out.trans (b13.below hlo1.2.1)
  have fa := o13.open
  have aa := box_all o13
  have f7 := fa.2.2.2.2.2.2.2.1
  have f8 := fa.2.2.2.2.2.2.2.2.1
  have f10 := fa.2.2.2.2.2.2.2.2.2.2
  have a7 := aa.2.2.2.2.2.2.2.1
  have a8 := aa.2.2.2.2.2.2.2.2.1
  have a10 := aa.2.2.2.2.2.2.2.2.2.2
  have g14 := ((g13.other bk 7 (.bool true) m1 m2 m3 m4 m5 hlv hrd9).other bk 8 (.int .i64 NA) m1 m2 m3 m4 m5 hlv hrd9).other bk 10 (.int .i64 RT) m1 m2 m3 m4 m5 hlv hrd9
  have o14 : OpBox (((w13.setCell ⟨bk, 7, none⟩ (.bool true)).setCell ⟨bk, 8, none⟩ (.int .i64 NA)).setCell ⟨bk, 10, none⟩ (.int .i64 RT)) bk ⟨qi, (pp : Int), (n : Int), qk, qm, qar, qse, true, NA, IV, RT⟩ := heap_setV (heap_setV (heap_setV o13 7 (.bool true) _ rfl) 8 (.int .i64 NA) _ rfl) 10 (.int .i64 RT) _ rfl
  have b14 := (((b13'.setCell (p := ⟨bk, 7, none⟩) hbb (.bool true)).setCell (p := ⟨bk, 8, none⟩) hbb (.int .i64 NA)).setCell (p := ⟨bk, 10, none⟩) hbb (.int .i64 RT))
  clear g13 o13 b13' fa aa b13 s13 c6 g11' o11' b11' HB13
  go_upto_region 14 with fail
  generalize ((w13.setCell ⟨bk, 7, none⟩ (.bool true)).setCell ⟨bk, 8, none⟩ (.int .i64 NA)).setCell ⟨bk, 10, none⟩ (.int .i64 RT) = W14 at *
  clear f7 f8 f10 a7 a8 a10 hw1 hw2
  -- region 14: when it is free
  have g15 := hid (g14.setFree pp RT)
  have o15 := hid (o14.only (only_set W14 R.gf pp (.int .i64 RT)) m3)
  have b15 := hid (b14.setCell (p := ⟨R.gf, pp, none⟩) hlo1.2.2.1 (.int .i64 RT))
  have cf := g14.freeAt pp (by rw [HP.out]; exact hpP)
  have ff := heap_frozen g14.free pp (by omega)
  have c7 := g14.wc.2.2.2.2.2.2.2.1
  rw [HP.out] at c7
  have a1 := (box_all o14).2.1
  have a10 := (box_all o14).2.2.2.2.2.2.2.2.2.2
  clear g14 o14 b14
  go_cut [] from 10 (fun wr => GAt base wr c { R with svs := R.svs.set n (.slice p8 LN8 cap8) } { x := nxt (nxt (nxt (nxt G1.x))), free := G1.free.set pp RT, gone := G1.gone, states := G1.states.set n XS', now := PT, l := G1.l } ∧ OpBox wr bk ⟨qi, (pp : Int), (n : Int), qk, qm, qar, qse, true, NA, IV, RT⟩ ∧ Below base w wr)
  case first =>
    go_region_held3 (fun w' => w'.cell? ⟨R.g, 7, none⟩ = some (.slice (some ⟨R.gf, 0, none⟩) P P) ∧ w'.cell? ⟨bk, 1, none⟩ = some (.int .i64 (pp : Int)) ∧ w'.cell? ⟨bk, 10, none⟩ = some (.int .i64 RT))
      (first | (with_reducible exact ⟨cell_drew c7, cell_drew a1, cell_drew a10⟩) | (with_reducible exact ⟨cell_drew (cell_far c7 hap.2.1), cell_drew (cell_far a1 m3), cell_drew (cell_far a10 m3)⟩) | (with_reducible exact ⟨cell_far c7 hap.2.1, cell_far a1 m3, cell_far a10 m3⟩))
      (fail)
    all_goals (go_wp2_with fail; go_meet)
    all_goals first | exact ⟨g15.out, o15.out, b15.out⟩ | exact ⟨g15.out.grow (Grow.drew _), o15.out.grow (Grow.drew _), b15.out.drew⟩
  clear g15 o15 b15 cf ff c7 a1 a10
  obtain ⟨g15, o15, b15⟩ := hcut
  -- region 15: a chance
  have gx := hid g15
  have ox := hid o15
  have bx := hid b15
  have c6 := gx.out.wc.2.2.2.2.2.2.1
  have cp := gx.out.wc.2.2.2.2.1
  have HCH := hid (fun w' (s : Src w' R.gs (nxt (nxt (nxt (nxt G1.x))))) => Chance_m (nxt (nxt (nxt (nxt G1.x)))) c.wrong R.gs w' (nxt_u _) s)
  rw [belV_pos (by omega), belX_pos (by omega)] at HCH
  clear g15 o15 b15
  go_upto_region 15 with fail
  go_cut [161] from 10 (fun s wr => s = .bool (decide (belowV (nxt (nxt (nxt (nxt G1.x)))) 100 < c.wrong)) ∧ GAt base wr c { R with svs := R.svs.set n (.slice p8 LN8 cap8) } { x := nxt (nxt (nxt (nxt (nxt G1.x)))), free := G1.free.set pp RT, gone := G1.gone, states := G1.states.set n XS', now := PT, l := G1.l } ∧ OpBox wr bk ⟨qi, (pp : Int), (n : Int), qk, qm, qar, qse, true, NA, IV, RT⟩ ∧ Below base w wr)
  case first =>
    go_region_held3 (fun w' => w'.cell? ⟨R.g, 6, none⟩ = some (.pointer (some ⟨R.gs, 0, none⟩)) ∧ w'.cell? ⟨R.g, 4, none⟩ = some (.int .i64 c.wrong))
      (first | (with_reducible exact ⟨cell_drew c6, cell_drew cp⟩) | (with_reducible exact ⟨c6', cp'⟩))
      ((go_at_call 15
        refine (HCH.out wc.drew gx.out.src).mono ?_
        rintro e wn ⟨rfl, bn, sn⟩
        have On : Only R.gs wc wn := (Only.refl R.gs wc).drew.trans bn
        have gn := hid (gx.out.next On sn (nxt_u _))
        have on := hid (ox.out.only On m2)
        have bn' := hid (bx.out.trans (On.below hlo1.2.1))
        have c6' := On.cell n1 c6
        have cp' := On.cell n1 cp
        clear On bn sn))
    all_goals (go_wp2_with fail; go_meet)
    all_goals exact ⟨rfl, gn.out, on.out, bn'.out⟩
  clear gx ox bx c6 cp HCH
  obtain ⟨es, g16, o16, b16⟩ := hcut
  -- region 16: another answer
  have HG := hid g16
  have HO' := hid o16
  have HB := hid b16
  have aa := box_all o16
  have fa := o16.open
  clear g16 o16 b16
  go_upto_if 161 with fail
  go_cut [] from 10 (fun wr => GAt base wr c { R with svs := R.svs.set n (.slice p8 LN8 cap8) } { x := nxt (nxt (nxt (nxt (nxt G1.x)))), free := G1.free.set pp RT, gone := G1.gone, states := G1.states.set n XS', now := PT, l := G1.l } ∧ OpBox wr bk ⟨qi, (pp : Int), (n : Int), qk, qm, qar, qse, true, RS, IV, RT⟩ ∧ Below base w wr)
  case first =>
    by_cases hw : belowV (nxt (nxt (nxt (nxt G1.x)))) 100 < c.wrong
    · rw [decide_eq_true hw] at es
      subst es
      have hrs := HRS.out
      rw [if_pos hw] at hrs
      have HW := hid (wrong_c ⟨qi, (pp : Int), (n : Int), qk, qm, qar, qse, true, NA, IV, RT⟩ (by dsimp only; omega) (by dsimp only; omega) wc)
      rw [← hrs] at HW
      dsimp only at HW
      clear hrs hw HRS
      obtain ⟨a0, a1, a2, a3, a4, a5, a6, a7, a8, a9, a10⟩ := aa
      clear fa
      go_wp2_with fail
      refine (HW.out).mono ?_
      rintro e w16 ⟨rfl, b16⟩
      have o16 := HO'.out.grow b16
      have g16 := hid (HG.out.grow b16)
      have bb16 := hid (HB.out.trans (b16.mono HG.out.base_le))
      have o16' := hid o16
      have f8 := o16.open.2.2.2.2.2.2.2.2.1
      have aa := box_all o16
      clear a0 a1 a2 a3 a4 a5 a6 a7 a8 a9 a10 o16 b16
      obtain ⟨a0, a1, a2, a3, a4, a5, a6, a7, a8, a9, a10⟩ := aa
      go_wp2_with fail
      go_meet
      exact ⟨g16.out.other bk 8 _ m1 m2 m3 m4 m5 hlv hrd9, heap_setV o16'.out 8 _ _ rfl, bb16.out.setCell (p := ⟨bk, 8, none⟩) hbb _⟩
    · rw [decide_eq_false hw] at es
      subst es
      have hrs := HRS.out
      rw [if_neg hw] at hrs
      have HN := hid hrs
      clear hrs hw HRS aa fa
      go_wp2_with fail
      go_meet
      refine ⟨HG.out, ?_, HB.out⟩
      rw [HN.out]
      exact HO'.out
  clear HG HO' HB aa fa HRS es
  obtain ⟨g17, o17, b17⟩ := hcut
  -- region 17: one more operation
  have HG := hid g17
  have HO' := hid o17
  have HB := hid b17
  have c11 := HG.out.wc.2.2.2.2.2.2.2.2.2.2.2
  have hgs : R.g ≠ wc.heap.size := Nat.ne_of_lt (heap_lt HG.out.cells)
  have hL : G1.l.length ≤ 1000 := by have := hok1.len; omega
  obtain ⟨i0, hi0, hz0, hz1, hz2⟩ := info_parts infoOpM
  clear g17 o17 b17
  obtain ⟨lA, lk, hlf⟩ := own_formM HG.out.own
  dsimp only at hlf c11
  rw [hlf] at c11
  have cA := (Grow.trans (Grow.alloc wc (.cells #[.int .i64 qi, .int .i64 (pp : Int), .int .i64 (n : Int), .int .i64 qk, .int .i64 qm, .int .i64 qar, .int .i64 qse, .bool true, .int .i64 RS, .int .i64 IV, .int .i64 RT] 52)) (Grow.drew _)).cell c11
  have HLF := hid hlf
  clear hlf
  go_upto_region 17 with fail
  obtain ⟨a0, a1, a2, a3, a4, a5, a6, a7, a8, a9, a10⟩ := box_all HO'.out
  go_region_law
    ((refine step_append_lies _ rfl _ _ 38 rfl base 52 i0 _ 11 88 Try.underlying38 hi0 hz0 hz1 hz2 rfl (by omega) (.slice lA G1.l.length lk) G1.l.length (opCells G1.l) rfl (own_turn HLF.out (HG.out.grow (Grow.trans (Grow.alloc wc (.cells #[.int .i64 qi, .int .i64 (pp : Int), .int .i64 (n : Int), .int .i64 qk, .int .i64 qm, .int .i64 qar, .int .i64 qse, .bool true, .int .i64 RS, .int .i64 IV, .int .i64 RT] 52)) (Grow.drew _))).own) ⟨wc.heap.size, 0, none⟩ 1 1 (OpR.row ⟨qi, (pp : Int), (n : Int), qk, qm, qar, qse, true, RS, IV, RT⟩) rfl rfl (World.news_of_block (cs := #[.int .i64 qi, .int .i64 (pp : Int), .int .i64 (n : Int), .int .i64 qk, .int .i64 qm, .int .i64 qar, .int .i64 qse, .bool true, .int .i64 RS, .int .i64 IV, .int .i64 RT]) ((Grow.drew _).heap (heap_new wc _))) (by simp [OpR.row, Value.oneCell']) (by omega) (by unfold maxLen; omega) (by omega) (HG.out.grow (Grow.trans (Grow.alloc wc (.cells #[.int .i64 qi, .int .i64 (pp : Int), .int .i64 (n : Int), .int .i64 qk, .int .i64 qm, .int .i64 qar, .int .i64 qse, .bool true, .int .i64 RS, .int .i64 IV, .int .i64 RT] 52)) (Grow.drew _))).base_le _ rfl ?_
      intro g2 cap2 wn hown hgr hat hlt
      rw [← HLF.out] at hgr hat
      have GP := HG.out.grow (Grow.trans (Grow.alloc wc (.cells #[.int .i64 qi, .int .i64 (pp : Int), .int .i64 (n : Int), .int .i64 qk, .int .i64 qm, .int .i64 qar, .int .i64 qse, .bool true, .int .i64 RS, .int .i64 IV, .int .i64 RT] 52)) (Grow.drew _))
      have gn := hid (GP.pushed ⟨qi, (pp : Int), (n : Int), qk, qm, qar, qse, true, RS, IV, RT⟩ hown hgr hat)
      have bn := hid ((GP.pushedB (HB.out.trans ((Grow.trans (Grow.alloc wc (.cells #[.int .i64 qi, .int .i64 (pp : Int), .int .i64 (n : Int), .int .i64 qk, .int .i64 qm, .int .i64 qar, .int .i64 qse, .bool true, .int .i64 RS, .int .i64 IV, .int .i64 RT] 52)) (Grow.drew _)).mono (Nat.le_trans hlo1.1 (Nat.le_of_lt (heap_lt HG.out.cells))))) hgr).setCell (p := ⟨R.g, 11, none⟩) hlo1.1 (.slice (some ⟨g2, 0, none⟩) (G1.l.length + 1) cap2))
      have c11' : wn.cell? ⟨R.g, 11, none⟩ = some R.lv := heap_cell (GP.gcells hgr) 11
      have f11' : wn.frozen? ⟨R.g, 11, none⟩ = false := heap_frozen (GP.gcells hgr) 11 (by omega)
      clear GP hown hgr hat hlt))
  all_goals go_wp2_with fail
  all_goals (first | go_end0 | ((try simp only [Exit.inBlock, Exit.then]); refine bodyPost_ret (results_none rfl _ _ _) rfl ?_))
  all_goals exact .intro { R with svs := R.svs.set n (.slice p8 LN8 cap8), lv := .slice (some ⟨g2, 0, none⟩) (G1.l.length + 1) cap2 } rfl rfl (by rw [HR2.out]; exact gn.out) bn.out
end Go.Proofs.Ytlhgdbangnohjaa
