/- A step of gen: it is done. -/
import Derived.Test.YtlhgdbangnohjaaGStepP3
import Derived.Test.YtlhgdbangnohjaaGStepP4
import Derived.Test.YtlhgdbangnohjaaMStep
import Derived.Test.YtlhgdbangnohjaaMSet
import Derived.Deep.AppendLies
namespace Go.Proofs.Ytlhgdbangnohjaa
open Go.RowKit
set_option linter.unusedVariables false
set_option linter.unusedSimpArgs false
attribute [local go_sem ↓ high] run_imax
set_option maxRecDepth 100000 in
set_option maxHeartbeats 40000000 in
theorem part2_c {cd : Code} (hcd : funcAfter Try.f28 6 = some cd) {base : Nat} {w wc : World} {c : GenC} {R : GR} {k : Nat} {id : Int} {p n bk pp P : Nat} {RES G1 : GenW} {qi qk qm qar qse : Int} {qd : Bool} {qre qrt IV PT : Int} {NO : Nat} {qin F NW M V V8 : Int} {u8 u9 u10 u11 u12 u13 u14 u15 u16 u17 u18 u19 u20 u21 u22 u23 u24 u25 u26 u27 u28 u29 u30 u31 u32 u33 u34 u35 u36 u37 u38 u39 u40 u41 u42 u43 u44 u45 u46 u47 u48 u49 u50 u51 u52 u53 u54 u55 u56 u57 u58 u59 u60 u61 u62 u63 u64 u65 u66 u67 u68 u69 u70 u71 u72 u73 u74 u75 u76 u77 u78 u79 u80 u81 u82 u83 u84 u85 u86 u87 u88 u89 u90 u91 u92 u93 u94 u95 u96 u97 u98 u99 u100 u101 u102 u103 u104 u105 u106 u107 u108 u109 u110 u111 u112 u113 u114 u115 u116 u117 u118 u119 u120 u121 u122 u123 u124 u125 u126 u127 u128 u129 u130 u131 u132 u133 u134 u135 u136 u137 u138 u139 u140 u141 u142 u143 u144 u145 u146 u147 u148 u149 u150 u151 u152 u153 u154 u155 u156 u157 u158 u159 u160 u161 u162 u163 u164 u165 u166 u167 u168 u169 u170 u171 u172 u173 u174 : Value} (hk : k ≤ 1000) (hok1 : GOk c G1 k) (m1 : bk ≠ R.g) (m2 : bk ≠ R.gs) (m3 : bk ≠ R.gf) (m4 : bk ≠ R.gg) (m5 : bk ≠ R.gst) (hlv : R.lv.ownBlock ≠ some bk) (hbb : base ≤ bk) (hlo1 : base ≤ R.g ∧ base ≤ R.gs ∧ base ≤ R.gf ∧ base ≤ R.gg) (hap : R.g ≠ R.gs ∧ R.g ≠ R.gf ∧ R.g ≠ R.gg ∧ R.g ≠ R.gst ∧ R.gs ≠ R.gf ∧ R.gs ≠ R.gg ∧ R.gs ≠ R.gst ∧ R.gf ≠ R.gg ∧ R.gf ≠ R.gst ∧ R.gg ≠ R.gst) (n1 : R.g ≠ R.gs) (hpP : pp < P) (HP : Hid (c.procs.toNat = P)) (hp0 : (0 : Int) ≤ (pp : Int)) (hp1 : (pp : Int) < (P : Int)) (hpt0 : 1 ≤ PT) (hpt1 : PT ≤ 20 * (k : Int) + 4) (hnn : n < NO) (HO : Hid (c.objects.toNat = NO)) (hlo5 : base ≤ R.gst) (hrd : ∀ i, i < c.objects.toNat → ∀ a q m, R.svs.getD i (.slice none 0 0) = .slice (some a) q m → 0 < q → a.block ≠ bk) (qa : AskOk c.procs ⟨qi, (pp : Int), (n : Int), qk, qm, qar, qse, qd, qre, qin, qrt⟩) (hr1 : RES = placeG c G1 ⟨qi, (pp : Int), (n : Int), qk, qm, qar, qse, qd, qre, qin, qrt⟩) (HK : Hid (qk = (n : Int) % 6 + 1)) (HF : Hid (G1.free.getD pp 0 = F)) (HNW : Hid (G1.now = NW)) (HM : Hid (imax NW F = M)) (HV4 : Hid (belowV G1.x 4 = V)) (HPT : Hid (PT = M + 1 + V)) (HV8 : Hid (belowV (nxt G1.x) 8 = V8)) (HIV : Hid (IV = imax (F + 1) (PT - V8))) (g7 : GAt base wc c R { G1 with x := nxt (nxt G1.x), now := PT }) (ob7 : OpBox wc bk ⟨qi, (pp : Int), (n : Int), qk, qm, qar, qse, qd, qre, IV, qrt⟩) (hb7 : Below base w wc) : cd.wp Try.prog (bodyPost Try.prog Try.f28 (GStepPost base w c R.g RES)) ⟨List.toArray [.pointer (some ⟨R.g, 0, none⟩), .int .i64 id, undef, undef, .int .i64 (p : Int), .bool true, .pointer (some ⟨bk, 0, none⟩), .int .i64 PT, u8, u9, u10, u11, u12, u13, u14, u15, u16, u17, u18, u19, u20, u21, u22, u23, u24, u25, u26, u27, u28, u29, u30, u31, u32, u33, u34, u35, u36, u37, u38, u39, u40, u41, u42, u43, u44, u45, u46, u47, u48, u49, u50, u51, u52, u53, u54, u55, u56, u57, u58, u59, u60, u61, u62, u63, u64, u65, u66, u67, u68, u69, u70, u71, u72, u73, u74, u75, u76, u77, u78, u79, u80, u81, u82, u83, u84, u85, u86, u87, u88, u89, u90, u91, u92, u93, u94, u95, u96, u97, u98, u99, u100, u101, u102, u103, u104, u105, u106, u107, u108, u109, u110, u111, u112, u113, u114, u115, u116, u117, u118, u119, u120, u121, u122, u123, u124, u125, u126, u127, u128, u129, u130, u131, u132, u133, u134, u135, u136, u137, u138, u139, u140, u141, u142, u143, u144, u145, u146, u147, u148, u149, u150, u151, u152, u153, u154, u155, u156, u157, u158, u159, u160, u161, u162, u163, u164, u165, u166, u167, u168, u169, u170, u171, u172, u173, u174], []⟩ wc := by
  refine code_of hcd rfl ?_
  clear hcd
  dsimp only
  -- region 7: it is done
  have hnO : n < c.objects.toNat := by rw [HO.out]; exact hnn
  obtain ⟨rp, rm, re, crow, -⟩ := g7.row n hnO
  have hrow := g7.rows n hnO
  rw [re] at hrow
  dsimp only at hrow crow re
  have hst := hok1.st n hnO
  generalize hXS : G1.states.getD n [] = XS at *
  have HXS := hid hXS
  have hlen : XS.length < 20000000000000 := by have := hst.len (by omega) (by omega); omega
  obtain ⟨O1, hO1⟩ : ∃ z : OpR, z = ⟨qi, (pp : Int), (n : Int), qk, qm, qar, qse, qd, qre, IV, qrt⟩ := ⟨_, rfl⟩
  have HDo := hid (fun w' (hv : Ints w' (.slice rp XS.length rm) XS) => Do_c XS O1 (.slice rp XS.length rm) w' hv hlen (fun h5 v w base hb hv => set_c XS O1 v w base hb hlen (hst.mem (by rw [hO1] at h5; dsimp only at h5; rw [← HK.out]; exact h5)).1 hv))
  rw [hO1] at HDo
  generalize hD : doL XS ⟨qi, (pp : Int), (n : Int), qk, qm, qar, qse, qd, qre, IV, qrt⟩ = D at *
  obtain ⟨XS', NA, OKB⟩ := D
  have HDD := hid hD
  have c9 := g7.wc.2.2.2.2.2.2.2.2.2.1
  rw [HO.out] at c9
  have q0 := ob7.at
  unfold OpAt at q0
  dsimp only at q0
  simp only [Nat.zero_add] at q0
  obtain ⟨a0, a1, a2, a3, a4, a5, a6, a7, a8, a9, a10⟩ := q0
  obtain ⟨HS, hHS⟩ : ∃ z, z = wc.heap.size := ⟨_, rfl⟩
  have hH := hid (And.intro (show R.g < HS by rw [hHS]; exact heap_lt g7.cells) (And.intro (show R.gs < HS by rw [hHS]; exact heap_lt g7.src) (And.intro (show R.gf < HS by rw [hHS]; exact heap_lt g7.free) (And.intro (show R.gg < HS by rw [hHS]; exact heap_lt g7.gone) (And.intro (show R.gst < HS by rw [hHS]; exact (g7.st.lt R.gst rfl).2) (And.intro (show bk < HS by rw [hHS]; exact ob7.lt) (show ∀ q, R.lv.ownBlock = some q → q < HS from fun q hq => by rw [hHS]; exact (g7.own.lt q hq).2)))))))
  have HHS := hid hHS
  clear hHS
  have HG7 := hid g7
  have HOB7 := hid ob7
  have HB7 := hid hb7
  have HRE := hid re
  have HROW := hid hrow
  generalize hLN : XS.length = LN at *
  have hn0 : (0 : Int) ≤ (n : Int) := by omega
  have hn1 : (n : Int) < (NO : Int) := by omega
  clear g7 ob7 hb7 hD hXS hst hO1 O1 re hlen hrow hLN
  go_upto_region 7 with fail
  go_cut [5, 7, 8, 9] from 10 (fun s5 s7 s8 s9 wr => s5 = .bool OKB ∧ s7 = .int .i64 PT ∧ s9 = .int .i64 NA ∧ IntsF HS wr s8 XS' ∧ GAt base wr c R { G1 with x := nxt (nxt G1.x), now := PT } ∧ OpBox wr bk ⟨qi, (pp : Int), (n : Int), qk, qm, qar, qse, qd, qre, IV, qrt⟩ ∧ Below base w wr)
  case first =>
    go_region_held3 (fun w' => w'.cell? ⟨R.g, 9, none⟩ = some (.slice (some ⟨R.gst, 0, none⟩) NO R.cst) ∧ w'.cell? ⟨R.gst, n, none⟩ = some (.slice rp LN rm) ∧ w'.cell? ⟨bk, 0, none⟩ = some (.int .i64 qi) ∧ w'.cell? ⟨bk, 1, none⟩ = some (.int .i64 (pp : Int)) ∧ w'.cell? ⟨bk, 2, none⟩ = some (.int .i64 (n : Int)) ∧ w'.cell? ⟨bk, 3, none⟩ = some (.int .i64 qk) ∧ w'.cell? ⟨bk, 4, none⟩ = some (.int .i64 qm) ∧ w'.cell? ⟨bk, 5, none⟩ = some (.int .i64 qar) ∧ w'.cell? ⟨bk, 6, none⟩ = some (.int .i64 qse) ∧ w'.cell? ⟨bk, 7, none⟩ = some (.bool qd) ∧ w'.cell? ⟨bk, 8, none⟩ = some (.int .i64 qre) ∧ w'.cell? ⟨bk, 9, none⟩ = some (.int .i64 IV) ∧ w'.cell? ⟨bk, 10, none⟩ = some (.int .i64 qrt))
      (first | (with_reducible exact ⟨cell_drew c9, cell_drew crow, cell_drew a0, cell_drew a1, cell_drew a2, cell_drew a3, cell_drew a4, cell_drew a5, cell_drew a6, cell_drew a7, cell_drew a8, cell_drew a9, cell_drew a10⟩) | (with_reducible exact ⟨g8.cell c9, g8.cell crow, g8.cell a0, g8.cell a1, g8.cell a2, g8.cell a3, g8.cell a4, g8.cell a5, g8.cell a6, g8.cell a7, g8.cell a8, g8.cell a9, g8.cell a10⟩))
      ((go_at_call 41
        refine (HDo.out wc.drew (HROW.out.grow (Grow.drew _))).mono ?_
        rintro e w8 ⟨v8, rfl, i8, b8⟩
        have g8 : Grow wc w8 := Grow.trans (Grow.drew wc) b8
        have HI8 : Hid (IntsF HS w8 v8 XS') := hid (by rw [HHS.out]; exact i8)
        have HG8 := hid (HG7.out.grow g8)
        have HOB8 := hid (HOB7.out.grow g8)
        have HB8 := hid (HB7.out.trans (g8.mono (Nat.le_trans hlo1.1 (Nat.le_of_lt (heap_lt HG7.out.cells)))))
        clear i8 b8))
    all_goals (go_wp2_with fail; go_meet)
    all_goals exact ⟨rfl, rfl, rfl, HI8.out, HG8.out, HOB8.out, HB8.out⟩
  clear c9 crow a0 a1 a2 a3 a4 a5 a6 a7 a8 a9 a10 HROW HDo HG7 HOB7 HB7
  obtain ⟨e5, e7, e9, i8, g8, ob8, hb8⟩ := hcut
  subst e5 e7 e9
  have HR := hid (hr1.trans (placeG_eq c G1 qi qk qm qar qse qd qre qin qrt pp n F PT IV NA XS' OKB HF.out (by rw [HNW.out, HM.out, HV4.out, HPT.out]) (by rw [HV8.out, HIV.out]) (by rw [HXS.out]; exact HDD.out)))
  clear hr1
  cases OKB
  · have HG8 := hid g8
    have HB8 := hid hb8
    clear g8 hb8 ob8 i8
    go_wp2_with fail
    first | go_end0 | ((try simp only [Exit.inBlock, Exit.then]); refine bodyPost_ret (results_none rfl _ _ _) rfl ?_)
    exact .intro R rfl rfl (by rw [HR.out]; exact HG8.out) HB8.out
  have hna : -((k : Int) + 1) ≤ NA ∧ NA ≤ (k : Int) + 4 := by
    have := doL_ok (xs := XS) (procs := c.procs) (o := ⟨qi, (pp : Int), (n : Int), qk, qm, qar, qse, qd, qre, IV, qrt⟩) hk (by dsimp only; rw [HK.out, ← HXS.out]; exact hok1.st n hnO) ⟨qa.arg, qa.sec, qa.proc⟩ (by rw [HDD.out])
    rw [HDD.out] at this
    exact this.2
  -- region 9: the state
  rw [if_neg (by decide)] at HR
  obtain ⟨⟨p8, cap8, rfl, i8l, i8c, i8n⟩, i8f⟩ := i8
  have HI8 : Hid (IntsF HS wc (.slice p8 XS'.length cap8) XS') := hid ⟨⟨p8, cap8, rfl, i8l, i8c, i8n⟩, i8f⟩
  have hrd9 := svs_set (v := .slice p8 XS'.length cap8) (n := n) c.objects.toNat hrd (fun a k m e e0 => by
    have := HI8.out.2 a k m e
    have := hH.out.2.2.2.2.2.1
    omega)
  have h9 : ∀ a k m, (Value.slice p8 XS'.length cap8) = .slice (some a) k m → 0 < k → a.block < wc.heap.size ∧ a.block ≠ R.g ∧ a.block ≠ R.gs ∧ a.block ≠ R.gf ∧ a.block ≠ R.gg ∧ a.block ≠ R.gst ∧ R.lv.ownBlock ≠ some a.block := fun a k m e e0 => by
    have e1 := HI8.out.2 a k m e
    obtain ⟨y1, y2, y3, y4, y5, y6, y7⟩ := hH.out
    cases e
    obtain ⟨b, off, e3, e4⟩ := i8c e0
    cases e3
    have := World.block_lt_of_cell? wc _ (e4 0 e0)
    dsimp only at this e1 ⊢
    refine ⟨this, by omega, by omega, by omega, by omega, by omega, fun e5 => ?_⟩
    have := y7 _ e5
    omega
  have hnO2 : n < c.objects.toNat := by rw [HO.out]; exact hnn
  have g9 := hid (g8.setState n hnO2 (.slice p8 XS'.length cap8) XS' HI8.out.1 h9)
  have b9 := hid (hb8.setCell (p := ⟨R.gst, n, none⟩) hlo5 (.slice p8 XS'.length cap8))
  have o9 := hid (ob8.only (only_set wc R.gst n (.slice p8 XS'.length cap8)) m5)
  have fst := g8.st.frozenAt n
  obtain ⟨rp2, rm2, re2, crow, -⟩ := g8.row n hnO2
  have c9 := g8.wc.2.2.2.2.2.2.2.2.2.1
  rw [HO.out] at c9
  have a2 := (box_all ob8).2.2.1
  clear i8l i8c i8n i8f h9 g8 hb8 ob8 re2 HI8 hH HRE HHS HDD hnO2 hnO
  generalize XS'.length = LN8 at *
  go_upto_region 9 with fail
  go_cut [] from 10 (fun wr => GAt base wr c { R with svs := R.svs.set n (.slice p8 LN8 cap8) } { G1 with x := nxt (nxt G1.x), now := PT, states := G1.states.set n XS' } ∧ OpBox wr bk ⟨qi, (pp : Int), (n : Int), qk, qm, qar, qse, qd, qre, IV, qrt⟩ ∧ Below base w wr)
  case first =>
    go_region_held3 (fun w' => w'.cell? ⟨R.g, 9, none⟩ = some (.slice (some ⟨R.gst, 0, none⟩) NO R.cst) ∧ w'.cell? ⟨bk, 2, none⟩ = some (.int .i64 (n : Int)))
      (first | (with_reducible exact ⟨cell_drew c9, cell_drew a2⟩) | (with_reducible exact ⟨cell_drew (cell_far c9 hap.2.2.2.1), cell_drew (cell_far a2 m5)⟩) | (with_reducible exact ⟨cell_far c9 hap.2.2.2.1, cell_far a2 m5⟩))
      (fail)
    all_goals (go_wp2_with fail; go_meet)
    all_goals first | exact ⟨g9.out, o9.out, b9.out⟩ | exact ⟨g9.out.grow (Grow.drew _), o9.out.grow (Grow.drew _), b9.out.drew⟩
  clear g9 b9 o9 fst crow c9 a2 hn0 hn1
  obtain ⟨g9, o9, b9⟩ := hcut
  -- region 10: a chance
  have g10 := hid g9
  have o10 := hid o9
  have b10 := hid b9
  have c6 := g10.out.wc.2.2.2.2.2.2.1
  have cp := g10.out.wc.2.2.2.2.2.1
  have HCH := hid (fun w' (s : Src w' R.gs (nxt (nxt G1.x))) => Chance_m (nxt (nxt G1.x)) c.pending R.gs w' (nxt_u _) s)
  rw [belV_pos (by omega), belX_pos (by omega)] at HCH
  clear g9 o9 b9
  go_upto_region 10 with fail
  go_cut [113] from 10 (fun s wr => s = .bool (decide (belowV (nxt (nxt G1.x)) 100 < c.pending)) ∧ GAt base wr c { R with svs := R.svs.set n (.slice p8 LN8 cap8) } { G1 with x := nxt (nxt (nxt G1.x)), now := PT, states := G1.states.set n XS' } ∧ OpBox wr bk ⟨qi, (pp : Int), (n : Int), qk, qm, qar, qse, qd, qre, IV, qrt⟩ ∧ Below base w wr)
  case first =>
    go_region_held3 (fun w' => w'.cell? ⟨R.g, 6, none⟩ = some (.pointer (some ⟨R.gs, 0, none⟩)) ∧ w'.cell? ⟨R.g, 5, none⟩ = some (.int .i64 c.pending))
      (first | (with_reducible exact ⟨cell_drew c6, cell_drew cp⟩) | (with_reducible exact ⟨c6', cp'⟩))
      ((go_at_call 15
        refine (HCH.out wc.drew g10.out.src).mono ?_
        rintro e wn ⟨rfl, bn, sn⟩
        have On : Only R.gs wc wn := (Only.refl R.gs wc).drew.trans bn
        have gn := hid (g10.out.next On sn (nxt_u _))
        have on := hid (o10.out.only On m2)
        have bn' := hid (b10.out.trans (On.below hlo1.2.1))
        have c6' := On.cell n1 c6
        have cp' := On.cell n1 cp
        clear On bn sn))
    all_goals (go_wp2_with fail; go_meet)
    all_goals exact ⟨rfl, gn.out, on.out, bn'.out⟩
  clear g10 o10 b10 c6 cp HCH
  obtain ⟨es, g11, o11, b11⟩ := hcut
  by_cases hpe : belowV (nxt (nxt G1.x)) 100 < c.pending
  · rw [if_pos hpe] at HR
    rw [decide_eq_true hpe] at es
    subst es
    go_step
    exact part3_c rfl hk hok1 m1 m2 m3 m4 m5 hlv hbb hlo1 hap n1 hpP HP hp0 hp1 hpt0 hpt1 hrd9 HR g11 o11 b11
  · rw [if_neg hpe] at HR
    rw [decide_eq_false hpe] at es
    subst es
    go_step
    go_step
    go_step
    go_step
    go_step
    exact part4_c rfl hk hok1 m1 m2 m3 m4 m5 hlv hbb hlo1 hap n1 hpP HP hp0 hp1 hpt0 hpt1 hrd9 hna HR g11 o11 b11
end Go.Proofs.Ytlhgdbangnohjaa
