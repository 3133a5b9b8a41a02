/- A step of gen: nobody answers. -/
import Derived.Test.YtlhgdbangnohjaaGStepA
import Derived.Deep.AppendLies
namespace Go.Proofs.Ytlhgdbangnohjaa
open Go.RowKit
set_option linter.unusedVariables false
set_option linter.unusedSimpArgs false
attribute [local go_sem ↓ high] run_imax
set_option maxRecDepth 100000 in
set_option maxHeartbeats 40000000 in
theorem part3_c {cd : Code} (hcd : funcCond Try.f28 113 = some cd) {base : Nat} {w wc : World} {c : GenC} {R : GR} {k : Nat} {id : Int} {p n bk pp P : Nat} {RES G1 : GenW} {qi qk qm qar qse : Int} {qd : Bool} {qre qrt IV PT : Int} {XS' : List Int} {p8 : Option Addr} {LN8 cap8 : Nat} {NA : Int} {K : Act → World → Prop} {u10 u11 u12 u13 u14 u15 u16 u17 u18 u19 u20 u21 u22 u23 u24 u25 u26 u27 u28 u29 u30 u31 u32 u33 u34 u35 u36 u37 u38 u39 u40 u41 u42 u43 u44 u45 u46 u47 u48 u49 u50 u51 u52 u53 u54 u55 u56 u57 u58 u59 u60 u61 u62 u63 u64 u65 u66 u67 u68 u69 u70 u71 u72 u73 u74 u75 u76 u77 u78 u79 u80 u81 u82 u83 u84 u85 u86 u87 u88 u89 u90 u91 u92 u93 u94 u95 u96 u97 u98 u99 u100 u101 u102 u103 u104 u105 u106 u107 u108 u109 u110 u111 u112 u114 u115 u116 u117 u118 u119 u120 u121 u122 u123 u124 u125 u126 u127 u128 u129 u130 u131 u132 u133 u134 u135 u136 u137 u138 u139 u140 u141 u142 u143 u144 u145 u146 u147 u148 u149 u150 u151 u152 u153 u154 u155 u156 u157 u158 u159 u160 u161 u162 u163 u164 u165 u166 u167 u168 u169 u170 u171 u172 u173 u174 : Value} (hk : k ≤ 1000) (hok1 : GOk c G1 k) (m1 : bk ≠ R.g) (m2 : bk ≠ R.gs) (m3 : bk ≠ R.gf) (m4 : bk ≠ R.gg) (m5 : bk ≠ R.gst) (hlv : R.lv.ownBlock ≠ some bk) (hbb : base ≤ bk) (hlo1 : base ≤ R.g ∧ base ≤ R.gs ∧ base ≤ R.gf ∧ base ≤ R.gg) (hap : R.g ≠ R.gs ∧ R.g ≠ R.gf ∧ R.g ≠ R.gg ∧ R.g ≠ R.gst ∧ R.gs ≠ R.gf ∧ R.gs ≠ R.gg ∧ R.gs ≠ R.gst ∧ R.gf ≠ R.gg ∧ R.gf ≠ R.gst ∧ R.gg ≠ R.gst) (n1 : R.g ≠ R.gs) (hpP : pp < P) (HP : Hid (c.procs.toNat = P)) (hp0 : (0 : Int) ≤ (pp : Int)) (hp1 : (pp : Int) < (P : Int)) (hpt0 : 1 ≤ PT) (hpt1 : PT ≤ 20 * (k : Int) + 4) (hrd9 : ∀ i, i < c.objects.toNat → ∀ a q m, (R.svs.set n (.slice p8 LN8 cap8)).getD i (.slice none 0 0) = .slice (some a) q m → 0 < q → a.block ≠ bk) (HR : Hid (RES = { x := nxt (nxt (nxt G1.x)), free := G1.free, gone := G1.gone.set pp true, states := G1.states.set n XS', now := PT, l := G1.l ++ [⟨qi, (pp : Int), (n : Int), qk, qm, qar, qse, qd, qre, IV, qrt⟩] })) (g11 : GAt base wc c { R with svs := R.svs.set n (.slice p8 LN8 cap8) } { G1 with x := nxt (nxt (nxt G1.x)), now := PT, states := G1.states.set n XS' }) (o11 : OpBox wc bk ⟨qi, (pp : Int), (n : Int), qk, qm, qar, qse, qd, qre, IV, qrt⟩) (b11 : Below base w wc) : cd.wp Try.prog (Exit.then K (bodyPost Try.prog Try.f28 (GStepPost base w c R.g RES))) ⟨List.toArray [.pointer (some ⟨R.g, 0, none⟩), .int .i64 id, undef, undef, .int .i64 (p : Int), .bool true, .pointer (some ⟨bk, 0, none⟩), .int .i64 PT, .slice p8 LN8 cap8, .int .i64 NA, u10, u11, u12, u13, u14, u15, u16, u17, u18, u19, u20, u21, u22, u23, u24, u25, u26, u27, u28, u29, u30, u31, u32, u33, u34, u35, u36, u37, u38, u39, u40, u41, u42, u43, u44, u45, u46, u47, u48, u49, u50, u51, u52, u53, u54, u55, u56, u57, u58, u59, u60, u61, u62, u63, u64, u65, u66, u67, u68, u69, u70, u71, u72, u73, u74, u75, u76, u77, u78, u79, u80, u81, u82, u83, u84, u85, u86, u87, u88, u89, u90, u91, u92, u93, u94, u95, u96, u97, u98, u99, u100, u101, u102, u103, u104, u105, u106, u107, u108, u109, u110, u111, u112, .bool true, u114, u115, u116, u117, u118, u119, u120, u121, u122, u123, u124, u125, u126, u127, u128, u129, u130, u131, u132, u133, u134, u135, u136, u137, u138, u139, u140, u141, u142, u143, u144, u145, u146, u147, u148, u149, u150, u151, u152, u153, u154, u155, u156, u157, u158, u159, u160, u161, u162, u163, u164, u165, u166, u167, u168, u169, u170, u171, u172, u173, u174], []⟩ wc := by
  refine code_of hcd rfl ?_
  clear hcd
  dsimp only
  -- region 11: nobody answers
  have g11' := hid g11
  have g12 := hid (g11.setGone pp true)
  have o12 := hid (o11.only (only_set wc R.gg pp (.bool true)) m4)
  have b12 := hid (b11.setCell (p := ⟨R.gg, pp, none⟩) hlo1.2.2.2 (.bool true))
  have cg := g11.goneAt pp (by rw [HP.out]; exact hpP)
  have fg := heap_frozen g11.gone pp (by omega)
  have c8 := g11.wc.2.2.2.2.2.2.2.2.1
  rw [HP.out] at c8
  have a1 := (box_all o11).2.1
  clear g11 o11 b11
  go_upto_region 11 with fail
  go_cut [] from 10 (fun wr => GAt base wr c { R with svs := R.svs.set n (.slice p8 LN8 cap8) } { G1 with x := nxt (nxt (nxt G1.x)), now := PT, states := G1.states.set n XS', gone := G1.gone.set pp true } ∧ OpBox wr bk ⟨qi, (pp : Int), (n : Int), qk, qm, qar, qse, qd, qre, IV, qrt⟩ ∧ Below base w wr)
  case first =>
    go_region_held3 (fun w' => w'.cell? ⟨R.g, 8, none⟩ = some (.slice (some ⟨R.gg, 0, none⟩) P P) ∧ w'.cell? ⟨bk, 1, none⟩ = some (.int .i64 (pp : Int)))
      (first | (with_reducible exact ⟨cell_drew c8, cell_drew a1⟩) | (with_reducible exact ⟨cell_drew (cell_far c8 hap.2.2.1), cell_drew (cell_far a1 m4)⟩) | (with_reducible exact ⟨cell_far c8 hap.2.2.1, cell_far a1 m4⟩))
      (fail)
    all_goals (go_wp2_with fail; go_meet)
    all_goals first | exact ⟨g12.out, o12.out, b12.out⟩ | exact ⟨g12.out.grow (Grow.drew _), o12.out.grow (Grow.drew _), b12.out.drew⟩
  clear g11' g12 o12 b12 cg fg c8 a1
  obtain ⟨g12, o12, b12⟩ := hcut
  -- region 12: one more operation
  have HG := hid g12
  have HO' := hid o12
  have HB := hid b12
  have c11 := HG.out.wc.2.2.2.2.2.2.2.2.2.2.2
  have hgs : R.g ≠ wc.heap.size := Nat.ne_of_lt (heap_lt HG.out.cells)
  have hL : G1.l.length ≤ 1000 := by have := hok1.len; omega
  obtain ⟨i0, hi0, hz0, hz1, hz2⟩ := info_parts infoOpM
  clear g12 o12 b12
  obtain ⟨lA, lk, hlf⟩ := own_formM HG.out.own
  dsimp only at hlf c11
  rw [hlf] at c11
  have cA := (Grow.trans (Grow.alloc wc (.cells #[.int .i64 qi, .int .i64 (pp : Int), .int .i64 (n : Int), .int .i64 qk, .int .i64 qm, .int .i64 qar, .int .i64 qse, .bool qd, .int .i64 qre, .int .i64 IV, .int .i64 qrt] 52)) (Grow.drew _)).cell c11
  have HLF := hid hlf
  clear hlf
  go_upto_region 12 with fail
  obtain ⟨a0, a1, a2, a3, a4, a5, a6, a7, a8, a9, a10⟩ := box_all HO'.out
  go_region_law
    ((refine step_append_lies _ rfl _ _ 38 rfl base 52 i0 _ 11 88 Try.underlying38 hi0 hz0 hz1 hz2 rfl (by omega) (.slice lA G1.l.length lk) G1.l.length (opCells G1.l) rfl (own_turn HLF.out (HG.out.grow (Grow.trans (Grow.alloc wc (.cells #[.int .i64 qi, .int .i64 (pp : Int), .int .i64 (n : Int), .int .i64 qk, .int .i64 qm, .int .i64 qar, .int .i64 qse, .bool qd, .int .i64 qre, .int .i64 IV, .int .i64 qrt] 52)) (Grow.drew _))).own) ⟨wc.heap.size, 0, none⟩ 1 1 (OpR.row ⟨qi, (pp : Int), (n : Int), qk, qm, qar, qse, qd, qre, IV, qrt⟩) rfl rfl (World.news_of_block (cs := #[.int .i64 qi, .int .i64 (pp : Int), .int .i64 (n : Int), .int .i64 qk, .int .i64 qm, .int .i64 qar, .int .i64 qse, .bool qd, .int .i64 qre, .int .i64 IV, .int .i64 qrt]) ((Grow.drew _).heap (heap_new wc _))) (by simp [OpR.row, Value.oneCell']) (by omega) (by unfold maxLen; omega) (by omega) (HG.out.grow (Grow.trans (Grow.alloc wc (.cells #[.int .i64 qi, .int .i64 (pp : Int), .int .i64 (n : Int), .int .i64 qk, .int .i64 qm, .int .i64 qar, .int .i64 qse, .bool qd, .int .i64 qre, .int .i64 IV, .int .i64 qrt] 52)) (Grow.drew _))).base_le _ rfl ?_
      intro g2 cap2 wn hown hgr hat hlt
      rw [← HLF.out] at hgr hat
      have GP := HG.out.grow (Grow.trans (Grow.alloc wc (.cells #[.int .i64 qi, .int .i64 (pp : Int), .int .i64 (n : Int), .int .i64 qk, .int .i64 qm, .int .i64 qar, .int .i64 qse, .bool qd, .int .i64 qre, .int .i64 IV, .int .i64 qrt] 52)) (Grow.drew _))
      have gn := hid (GP.pushed ⟨qi, (pp : Int), (n : Int), qk, qm, qar, qse, qd, qre, IV, qrt⟩ hown hgr hat)
      have bn := hid ((GP.pushedB (HB.out.trans ((Grow.trans (Grow.alloc wc (.cells #[.int .i64 qi, .int .i64 (pp : Int), .int .i64 (n : Int), .int .i64 qk, .int .i64 qm, .int .i64 qar, .int .i64 qse, .bool qd, .int .i64 qre, .int .i64 IV, .int .i64 qrt] 52)) (Grow.drew _)).mono (Nat.le_trans hlo1.1 (Nat.le_of_lt (heap_lt HG.out.cells))))) hgr).setCell (p := ⟨R.g, 11, none⟩) hlo1.1 (.slice (some ⟨g2, 0, none⟩) (G1.l.length + 1) cap2))
      have c11' : wn.cell? ⟨R.g, 11, none⟩ = some R.lv := heap_cell (GP.gcells hgr) 11
      have f11' : wn.frozen? ⟨R.g, 11, none⟩ = false := heap_frozen (GP.gcells hgr) 11 (by omega)
      clear GP hown hgr hat hlt))
  all_goals go_wp2_with fail
  all_goals (first | go_end0 | ((try simp only [Exit.inBlock, Exit.then]); refine bodyPost_ret (results_none rfl _ _ _) rfl ?_))
  all_goals exact .intro { R with svs := R.svs.set n (.slice p8 LN8 cap8), lv := .slice (some ⟨g2, 0, none⟩) (G1.l.length + 1) cap2 } rfl rfl (by rw [HR.out]; exact gn.out) bn.out
end Go.Proofs.Ytlhgdbangnohjaa
