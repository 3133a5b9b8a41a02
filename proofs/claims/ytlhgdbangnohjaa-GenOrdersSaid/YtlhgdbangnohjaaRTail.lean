/- The reference's step, once it is known what is asked for. The reference's step, once it is known who asks. The reference's step, whole. What lies in memory ahead of the first step of a history of the reference's. The history that a config makes: the reference's History. -/
import Derived.Test.YtlhgdbangnohjaaRPlace
import Derived.Test.YtlhgdbangnohjaaGTurnL
import Derived.Test.YtlhgdbangnohjaaGStepOk
import Derived.Test.YtlhgdbangnohjaaGTail
namespace Go.Proofs.Ytlhgdbangnohjaa
open Go.RowKit
set_option linter.unusedVariables false
set_option linter.unusedSimpArgs false
set_option maxRecDepth 100000 in
set_option maxHeartbeats 40000000 in
theorem rstepC_c {cd : Code} (hcd : funcFrom Try.f30 15 = some cd) {base : Nat} {w wc : World} {c : GenC} {R : GR} {G RES : GenW} {k : Nat} {y : Int} {n bk pp : Nat} {qi qk qm qar qse : Int} {qd : Bool} {qre qin qrt : Int} {a1v : Value} {u2 u3 u4 u5 u8 u9 u10 u11 u12 u13 u14 u15 u16 u17 u18 u19 u20 u21 u22 u23 u24 u25 u26 u27 u28 u29 u30 u31 u32 u33 u34 u35 u36 u37 u38 u39 u40 u41 u42 u43 u44 u45 u46 u47 u48 u49 u50 u51 u52 u53 u54 u55 u56 u57 u58 u59 u60 u61 u62 u63 u64 u65 u66 u67 u68 u69 u70 u71 u72 u73 u74 u75 u76 u77 u78 u79 u80 u81 u82 u83 u84 u85 u86 u87 u88 u89 u90 u91 u92 u93 u94 u95 u96 u97 u98 u99 u100 u101 u102 u103 u104 u105 u106 u107 u108 u109 u110 u111 u112 u113 u114 u115 u116 u117 u118 u119 u120 u121 u122 u123 u124 u125 u126 u127 u128 u129 u130 u131 u132 u133 u134 u135 u136 u137 u138 u139 u140 u141 u142 u143 u144 u145 u146 : Value} (hcg : c.good) (hk : k ≤ 1000) (hok : GOk c G k) (hnn : n < c.objects.toNat) (hpP : pp < c.procs.toNat) (m1 : bk ≠ R.g) (m3 : bk ≠ R.gf) (m4 : bk ≠ R.gg) (m5 : bk ≠ R.gst) (hlv : R.lv.ownBlock ≠ some bk) (hbb : base ≤ bk) (hrd : ∀ i, i < c.objects.toNat → ∀ a q m, R.svs.getD i (.slice none 0 0) = .slice (some a) q m → 0 < q → a.block ≠ bk) (qa : AskOk c.procs ⟨qi, (pp : Int), (n : Int), qk, qm, qar, qse, qd, qre, qin, qrt⟩) (HK : Hid (qk = (n : Int) % 6 + 1)) (hr : Hid (RES = stepA c G y (turnL G ⟨qi, (pp : Int), (n : Int), qk, qm, qar, qse, qd, qre, qin, qrt⟩))) (g15 : HAt base wc c R { G with x := y }) (o15 : OpBox wc bk ⟨qi, (pp : Int), (n : Int), qk, qm, qar, qse, qd, qre, qin, qrt⟩) (b15 : Below base w wc) : cd.wp Try.prog (bodyPost Try.prog Try.f30 (HStepPost base w c R.g RES)) ⟨List.toArray [.pointer (some ⟨R.g, 0, none⟩), a1v, u2, u3, u4, u5, .int .i64 (n : Int), .pointer (some ⟨bk, 0, none⟩), u8, u9, u10, u11, u12, u13, u14, u15, u16, u17, u18, u19, u20, u21, u22, u23, u24, u25, u26, u27, u28, u29, u30, u31, u32, u33, u34, u35, u36, u37, u38, u39, u40, u41, u42, u43, u44, u45, u46, u47, u48, u49, u50, u51, u52, u53, u54, u55, u56, u57, u58, u59, u60, u61, u62, u63, u64, u65, u66, u67, u68, u69, u70, u71, u72, u73, u74, u75, u76, u77, u78, u79, u80, u81, u82, u83, u84, u85, u86, u87, u88, u89, u90, u91, u92, u93, u94, u95, u96, u97, u98, u99, u100, u101, u102, u103, u104, u105, u106, u107, u108, u109, u110, u111, u112, u113, u114, u115, u116, u117, u118, u119, u120, u121, u122, u123, u124, u125, u126, u127, u128, u129, u130, u131, u132, u133, u134, u135, u136, u137, u138, u139, u140, u141, u142, u143, u144, u145, u146], []⟩ wc := by
  refine code_of hcd rfl ?_
  clear hcd
  dsimp only
  obtain ⟨h1, h16, h2, h26, -⟩ := hcg
  have HG := hid g15
  have HB := hid b15
  have HOB := hid o15
  have hnO := hnn
  obtain ⟨rp, rm, re, crow, hcr⟩ := g15.row n hnO
  dsimp only at crow hcr
  have c9 := g15.wc.2.2.2.2.2.2.2.2.2.1
  obtain ⟨f0, f1, f2, f3, f4, f5, f6, f7, f8, f9, f10⟩ := o15.open
  obtain ⟨a0, a1, a2, a3, a4, a5, a6, a7, a8, a9, a10⟩ := box_all o15
  have hn0 : (0 : Int) ≤ (n : Int) := by omega
  have hn1 : (n : Int) < (c.objects.toNat : Int) := by omega
  have HN := hid hnO
  clear g15 b15 o15 re
  by_cases hk6 : qk = 6
  · subst hk6
    have hst := hok.st n hnO
    rw [← HK.out] at hst
    have hlock := hst.lock rfl
    rcases hlock with he | ⟨pz, he, hpz⟩
    · -- nobody has it
      have ht : turnL G ⟨qi, (pp : Int), (n : Int), 6, qm, qar, qse, qd, qre, qin, qrt⟩ = some ⟨qi, (pp : Int), (n : Int), 6, 13, qar, qse, qd, qre, qin, qrt⟩ := by
        unfold turnL
        dsimp only
        rw [if_pos rfl, Int.toNat_natCast, he]
      rw [ht] at hr
      have HR := hid hr.out
      have HP := hid (fun w' (g : HAt base w' c R { G with x := y }) => place_c g hk (hok.x y) qi 6 13 qar qse qd qre qin qrt pp n hpP hnO ⟨qa.arg, qa.sec, qa.proc⟩ HK.out)
      rw [he] at crow
      have g16 := hid (HG.out.other bk 4 (.int .i64 13) m1 m3 m4 m5 hlv hrd)
      have b16 := hid (HB.out.setCell (p := ⟨bk, 4, none⟩) hbb (.int .i64 13))
      have o16 : OpBox (wc.setCell ⟨bk, 4, none⟩ (.int .i64 13)) bk ⟨qi, (pp : Int), (n : Int), 6, 13, qar, qse, qd, qre, qin, qrt⟩ := heap_setV HOB.out 4 _ _ rfl
      have hlen : (([] : List Int).length) = 0 := rfl
      rw [hlen] at crow
      clear hr ht he hst hcr hlen
      go_upto_region 20 with fail
      generalize wc.setCell ⟨bk, 4, none⟩ (.int .i64 13) = W at *
      clear a0 a1 a2 a3 a4 a5 a6 a7 a8 a9 a10
      obtain ⟨a0, a1, a2, a3, a4, a5, a6, a7, a8, a9, a10⟩ := box_all o16
      clear o16
      go_wp2_with fail
      refine (HP.out _ g16.out).mono ?_
      rintro e w2 ⟨⟨v, rfl⟩, ⟨R2, hg2, ga2⟩, bb2⟩
      have HE := hid (show HStepPost base w c R.g RES (.returned (.tuple #[])) w2 from ⟨⟨_, rfl⟩, ⟨R2, hg2, by rw [HR.out]; exact ga2⟩, b16.out.trans bb2⟩)
      clear hg2 ga2 bb2
      go_wp2_with fail
      first | go_end0 | ((try simp only [Exit.inBlock, Exit.then]); refine bodyPost_ret (results_none rfl _ _ _) rfl ?_)
      exact HE.out
    · obtain ⟨pq, hpq⟩ : ∃ pq : Nat, pz = (pq : Int) := ⟨pz.toNat, by omega⟩
      subst hpq
      have hpqP : pq < c.procs.toNat := by omega
      rw [he] at crow hcr
      obtain ⟨rb, roff, hrp, hrc⟩ := hcr (by simp)
      subst hrp
      have hlen : ([(pq : Int)].length) = 1 := rfl
      rw [hlen] at crow
      have hrc' : wc.cell? ⟨rb, roff, none⟩ = some (.int .i64 (pq : Int)) := hrc
      have g16 := ((HG.out.other bk 1 (.int .i64 (pq : Int)) m1 m3 m4 m5 hlv hrd).other bk 4 (.int .i64 14) m1 m3 m4 m5 hlv hrd)
      have b16 := ((HB.out.setCell (p := ⟨bk, 1, none⟩) hbb (.int .i64 (pq : Int))).setCell (p := ⟨bk, 4, none⟩) hbb (.int .i64 14))
      have o16 : OpBox ((wc.setCell ⟨bk, 1, none⟩ (.int .i64 (pq : Int))).setCell ⟨bk, 4, none⟩ (.int .i64 14)) bk ⟨qi, (pq : Int), (n : Int), 6, 14, qar, qse, qd, qre, qin, qrt⟩ := heap_setV (heap_setV HOB.out 1 _ _ rfl) 4 _ _ rfl
      have hq0 : (0 : Int) ≤ (pq : Int) := by omega
      obtain ⟨P, hPv⟩ : ∃ P : Nat, P = c.procs.toNat := ⟨_, rfl⟩
      have hq1 : (pq : Int) < (P : Int) := by omega
      have HPv := hid hPv
      clear hPv
      have HE2 := hid he
      clear hst hcr hlen hrc he
      go_upto_region 19 with fail
      generalize (wc.setCell ⟨bk, 1, none⟩ (.int .i64 (pq : Int))).setCell ⟨bk, 4, none⟩ (.int .i64 14) = W at *
      clear a0 a1 a2 a3 a4 a5 a6 a7 a8 a9 a10 f0 f1 f2 f3 f4 f5 f6 f7 f8 f9 f10 crow hrc' c9
      have c8 := g16.wc.2.2.2.2.2.2.2.2.1
      rw [← HPv.out] at c8
      have cg := g16.goneAt pq hpqP
      dsimp only at cg
      have a1 := (box_all o16).2.1
      have HG16 := hid g16
      have HO16 := hid o16
      have HB16 := hid b16
      clear g16 o16 b16
      generalize hgo : G.gone.getD pq false = go at *
      have HGO := hid hgo
      clear hgo
      go_cut [143] from 9 (fun s wr => s = .bool go ∧ HAt base wr c R { G with x := y } ∧ OpBox wr bk ⟨qi, (pq : Int), (n : Int), 6, 14, qar, qse, qd, qre, qin, qrt⟩ ∧ Below base w wr)
      case first =>
        go_region_held3 (fun w' => w'.cell? ⟨R.g, 8, none⟩ = some (.slice (some ⟨R.gg, 0, none⟩) P P) ∧ w'.cell? ⟨R.gg, pq, none⟩ = some (.bool go) ∧ w'.cell? ⟨bk, 1, none⟩ = some (.int .i64 (pq : Int)))
          (first | (with_reducible exact ⟨cell_drew c8, cell_drew cg, cell_drew a1⟩) | (with_reducible exact ⟨c8, cg, a1⟩))
          (fail)
        all_goals (go_wp2_with fail; go_meet)
        all_goals first | exact ⟨rfl, HG16.out, HO16.out, HB16.out⟩ | exact ⟨rfl, HG16.out.grow (Grow.drew _), HO16.out.grow (Grow.drew _), HB16.out.drew⟩
      clear HG16 HO16 HB16 c8 cg a1
      obtain ⟨es, g17, o17, b17⟩ := hcut
      subst es
      have HG17 := hid g17
      have HB17 := hid b17
      obtain ⟨a0, a1, a2, a3, a4, a5, a6, a7, a8, a9, a10⟩ := box_all o17
      clear g17 b17 o17
      cases go
      · have ht : turnL G ⟨qi, (pp : Int), (n : Int), 6, qm, qar, qse, qd, qre, qin, qrt⟩ = some ⟨qi, (pq : Int), (n : Int), 6, 14, qar, qse, qd, qre, qin, qrt⟩ := by
          unfold turnL
          dsimp only
          rw [if_pos rfl, Int.toNat_natCast, HE2.out]
          dsimp only
          rw [Int.toNat_natCast, HGO.out, if_neg (by decide)]
        rw [ht] at hr
        have HR := hid hr.out
        have HP := hid (fun w' (g : HAt base w' c R { G with x := y }) => place_c g hk (hok.x y) qi 6 14 qar qse qd qre qin qrt pq n hpqP hnO ⟨qa.arg, qa.sec, by constructor <;> (dsimp only; omega)⟩ HK.out)
        clear hr ht
        go_upto_region 20 with fail
        go_wp2_with fail
        refine (HP.out _ HG17.out).mono ?_
        rintro e w2 ⟨⟨v, rfl⟩, ⟨R2, hg2, ga2⟩, bb2⟩
        have HE := hid (show HStepPost base w c R.g RES (.returned (.tuple #[])) w2 from ⟨⟨_, rfl⟩, ⟨R2, hg2, by rw [HR.out]; exact ga2⟩, HB17.out.trans bb2⟩)
        clear hg2 ga2 bb2
        go_wp2_with fail
        first | go_end0 | ((try simp only [Exit.inBlock, Exit.then]); refine bodyPost_ret (results_none rfl _ _ _) rfl ?_)
        exact HE.out
      · have ht : turnL G ⟨qi, (pp : Int), (n : Int), 6, qm, qar, qse, qd, qre, qin, qrt⟩ = none := by
          unfold turnL
          dsimp only
          rw [if_pos rfl, Int.toNat_natCast, HE2.out]
          dsimp only
          rw [Int.toNat_natCast, HGO.out, if_pos rfl]
        rw [ht] at hr
        have HR := hid hr.out
        clear hr ht
        go_wp2_with fail
        first | go_end0 | ((try simp only [Exit.inBlock, Exit.then]); refine bodyPost_ret (results_none rfl _ _ _) rfl ?_)
        exact .intro R rfl rfl (by rw [HR.out]; exact HG17.out) HB17.out
  · have ht : turnL G ⟨qi, (pp : Int), (n : Int), qk, qm, qar, qse, qd, qre, qin, qrt⟩ = some ⟨qi, (pp : Int), (n : Int), qk, qm, qar, qse, qd, qre, qin, qrt⟩ := by
      unfold turnL
      dsimp only
      rw [if_neg hk6]
    rw [ht] at hr
    have HR := hid hr.out
    have HP := hid (fun w' (g : HAt base w' c R { G with x := y }) => place_c g hk (hok.x y) qi qk qm qar qse qd qre qin qrt pp n hpP hnO qa HK.out)
    have q6 : (qk == 6) = false := by simpa using hk6
    clear hr ht hk6 hcr
    go_upto_region 20 with fail
    go_wp2_with fail
    refine (HP.out _ HG.out).mono ?_
    rintro e w2 ⟨⟨v, rfl⟩, ⟨R2, hg2, ga2⟩, bb2⟩
    have HE := hid (show HStepPost base w c R.g RES (.returned (.tuple #[])) w2 from ⟨⟨_, rfl⟩, ⟨R2, hg2, by rw [HR.out]; exact ga2⟩, HB.out.trans bb2⟩)
    clear hg2 ga2 bb2
    go_wp2_with fail
    first | go_end0 | ((try simp only [Exit.inBlock, Exit.then]); refine bodyPost_ret (results_none rfl _ _ _) rfl ?_)
    exact HE.out
end Go.Proofs.Ytlhgdbangnohjaa
namespace Go.Proofs.Ytlhgdbangnohjaa
open Go.RowKit
set_option linter.unusedVariables false
set_option linter.unusedSimpArgs false
theorem methods_in (k : Int) (h1 : 1 ≤ k) (h6 : k ≤ 6) : 1 ≤ (methodsL k).length ∧ (methodsL k).length ≤ 3 ∧ ∀ i, i < (methodsL k).length → 1 ≤ (methodsL k).getD i 0 ∧ (methodsL k).getD i 0 ≤ 14 := by
  have : k = 1 ∨ k = 2 ∨ k = 3 ∨ k = 4 ∨ k = 5 ∨ k = 6 := by omega
  rcases this with rfl | rfl | rfl | rfl | rfl | rfl
  all_goals
    refine ⟨by decide, by decide, fun i hi => ?_⟩
    have hi3 : i < 3 := Nat.lt_of_lt_of_le hi (by decide)
    have : i = 0 ∨ i = 1 ∨ i = 2 := by omega
    rcases this with rfl | rfl | rfl <;> first | decide | (exact absurd hi (by decide))
theorem askL_eq {x id proc object kd m : Int} {i : Nat} (hk : object % 6 + 1 = kd) (hi : belowV x ((methodsL kd).length : Int) = (i : Int)) (hm : (methodsL kd).getD i 0 = m) :
    askL x id proc object = if m = 3 then (nxt (nxt (nxt x)), ⟨id, proc, object, kd, m, belowV (nxt x) 4, belowV (nxt (nxt x)) 4, false, 0, 0, 0⟩) else if m = 2 ∨ m = 6 ∨ m = 8 ∨ m = 10 ∨ m = 11 ∨ m = 12 then (nxt (nxt x), ⟨id, proc, object, kd, m, belowV (nxt x) 4, 0, false, 0, 0, 0⟩) else (nxt x, ⟨id, proc, object, kd, m, 0, 0, false, 0, 0, 0⟩) := by
  unfold askL
  simp only [hk, hi, Int.toNat_natCast, hm]
set_option maxRecDepth 100000 in
set_option maxHeartbeats 40000000 in
theorem rstepB_c {cd : Code} (hcd : funcFrom Try.f30 6 = some cd) {base : Nat} {w wc : World} {c : GenC} {R : GR} {G RES : GenW} {k p : Nat} {id : Int} {u2 u3 u5 u6 u7 u8 u9 u10 u11 u12 u13 u14 u15 u16 u17 u18 u19 u20 u21 u22 u23 u24 u25 u26 u27 u28 u29 u30 u31 u32 u33 u34 u35 u36 u37 u38 u39 u40 u41 u42 u43 u44 u45 u46 u47 u48 u49 u50 u51 u52 u53 u54 u55 u56 u57 u58 u59 u60 u61 u62 u63 u64 u65 u66 u67 u68 u69 u70 u71 u72 u73 u74 u75 u76 u77 u78 u79 u80 u81 u82 u83 u84 u85 u86 u87 u88 u89 u90 u91 u92 u93 u94 u95 u96 u97 u98 u99 u100 u101 u102 u103 u104 u105 u106 u107 u108 u109 u110 u111 u112 u113 u114 u115 u116 u117 u118 u119 u120 u121 u122 u123 u124 u125 u126 u127 u128 u129 u130 u131 u132 u133 u134 u135 u136 u137 u138 u139 u140 u141 u142 u143 u144 u145 u146 : Value} (hcg : c.good) (hk : k ≤ 1000) (hok : GOk c G k) (hpP : p < c.procs.toNat) (hch : chooseL G.gone c.procs.toNat (belowV G.x c.procs).toNat c.procs.toNat 0 = some p) (hr : RES = stepG c G id) (g6 : HAt base wc c R { G with x := nxt G.x }) (b6 : Below base w wc) : cd.wp Try.prog (bodyPost Try.prog Try.f30 (HStepPost base w c R.g RES)) ⟨List.toArray [.pointer (some ⟨R.g, 0, none⟩), .int .i64 id, u2, u3, .int .i64 (p : Int), u5, u6, u7, u8, u9, u10, u11, u12, u13, u14, u15, u16, u17, u18, u19, u20, u21, u22, u23, u24, u25, u26, u27, u28, u29, u30, u31, u32, u33, u34, u35, u36, u37, u38, u39, u40, u41, u42, u43, u44, u45, u46, u47, u48, u49, u50, u51, u52, u53, u54, u55, u56, u57, u58, u59, u60, u61, u62, u63, u64, u65, u66, u67, u68, u69, u70, u71, u72, u73, u74, u75, u76, u77, u78, u79, u80, u81, u82, u83, u84, u85, u86, u87, u88, u89, u90, u91, u92, u93, u94, u95, u96, u97, u98, u99, u100, u101, u102, u103, u104, u105, u106, u107, u108, u109, u110, u111, u112, u113, u114, u115, u116, u117, u118, u119, u120, u121, u122, u123, u124, u125, u126, u127, u128, u129, u130, u131, u132, u133, u134, u135, u136, u137, u138, u139, u140, u141, u142, u143, u144, u145, u146], []⟩ wc := by
  refine code_of hcd rfl ?_
  clear hcd
  dsimp only
  have hcg' := hcg
  obtain ⟨h1, h16, h2, h26, -⟩ := hcg
  have HG := hid g6
  have HB := hid b6
  have c2 := g6.wc.2.2.1
  have HB6 := hid (hbelow_c g6 c.objects h2 (by omega))
  dsimp only at HB6
  have n0 := belowV_lo (x := nxt G.x) (n := c.objects) h2
  have n9 := belowV_hi (x := nxt G.x) (n := c.objects) h2
  obtain ⟨n, hn⟩ : ∃ n : Nat, belowV (nxt G.x) c.objects = (n : Int) := Int.eq_ofNat_of_zero_le n0
  rw [hn] at HB6 n9
  have hnn : n < c.objects.toNat := by omega
  have hn16 : n < 16 := by omega
  have HN := hid hn
  clear g6 b6 hn n0 n9
  go_wp2_with fail
  refine (HB6.out).mono ?_
  rintro e w7 ⟨rfl, x7⟩
  have g7 := HG.out.xset x7 (nxt_u _)
  have b7 := HB.out.trans (x7.below HG.out.lo.1 HG.out.base_le)
  have HG7 := hid g7
  have HB7 := hid b7
  clear g7 b7 x7 c2 HB6 HG HB
  obtain ⟨kd, hkd⟩ : ∃ kd : Int, kd = (n : Int) % 6 + 1 := ⟨_, rfl⟩
  have hk1 : 1 ≤ kd := by omega
  have hk6 : kd ≤ 6 := by omega
  have hw0 : IntKind.i64.wrap ((n : Int).tmod 6) = (n : Int) % 6 := by rw [Int.tmod_eq_emod_of_nonneg (by omega), IntKind.wrap_i64]; omega
  have hw1 : IntKind.i64.wrap ((n : Int) % 6 + 1) = kd := by rw [IntKind.wrap_i64]; omega
  have HKD := hid hkd
  obtain ⟨bk, hbk⟩ : ∃ b, b = w7.heap.size := ⟨_, rfl⟩
  have hg7 := heap_lt HG7.out.cells
  have hf7 := heap_lt HG7.out.free
  have hgg7 := heap_lt HG7.out.gone
  have hlst : base ≤ R.gst ∧ R.gst < w7.heap.size := HG7.out.st.lt R.gst rfl
  have m1 : bk ≠ R.g := by omega
  have m3 : bk ≠ R.gf := by omega
  have m4 : bk ≠ R.gg := by omega
  have m5 : bk ≠ R.gst := by omega
  have hlo1 := HG7.out.lo
  have hbb : base ≤ bk := by omega
  have hlv : R.lv.ownBlock ≠ some bk := fun e => by have := (HG7.out.own.lt bk e).2; omega
  have hrd : ∀ i, i < c.objects.toNat → ∀ a q m, R.svs.getD i (.slice none 0 0) = .slice (some a) q m → 0 < q → a.block ≠ bk := fun i hi a q m e e0 => by have := (HG7.out.rowd i hi a q m e e0).1; omega
  have HMe := hid (fun w => rmethods_c kd hk1 hk6 w)
  have HML := hid (methods_in kd hk1 hk6)
  clear hkd
  go_upto_region 8 with fail
  have HB8 : Hid (Below base w (w7.alloc (.cells #[.int .i64 id, .int .i64 (p : Int), .int .i64 (n : Int), .int .i64 kd, .int .i64 0, .int .i64 0, .int .i64 0, .bool false, .int .i64 0, .int .i64 0, .int .i64 0] 52))) := hid (HB7.out.trans ((Grow.alloc w7 _).mono HG7.out.base_le))
  have HG8 := hid (HG7.out.grow (Grow.alloc w7 (.cells #[.int .i64 id, .int .i64 (p : Int), .int .i64 (n : Int), .int .i64 kd, .int .i64 0, .int .i64 0, .int .i64 0, .bool false, .int .i64 0, .int .i64 0, .int .i64 0] 52)))
  have HO8 : Hid (OpBox (w7.alloc (.cells #[.int .i64 id, .int .i64 (p : Int), .int .i64 (n : Int), .int .i64 kd, .int .i64 0, .int .i64 0, .int .i64 0, .bool false, .int .i64 0, .int .i64 0, .int .i64 0] 52)) bk ⟨id, (p : Int), (n : Int), kd, 0, 0, 0, false, 0, 0, 0⟩) := hid (by rw [hbk]; exact heap_new _ _)
  rw [← hbk]
  generalize w7.alloc (.cells #[.int .i64 id, .int .i64 (p : Int), .int .i64 (n : Int), .int .i64 kd, .int .i64 0, .int .i64 0, .int .i64 0, .bool false, .int .i64 0, .int .i64 0, .int .i64 0] 52) = W8 at *
  clear HG7 HB7 hbk hw0 hw1 hg7 hf7 hgg7 hlst
  have a3 := (box_all HO8.out).2.2.2.1
  go_wp2_with fail
  refine (HMe.out W8).mono ?_
  rintro e w9 ⟨lb, rfl, hlb, gr9⟩
  have HG9 := hid (HG8.out.grow gr9)
  have HB9 := hid (HB8.out.trans (gr9.mono HG8.out.base_le))
  have HO9 := hid (HO8.out.grow gr9)
  obtain ⟨hml0, hml1, hmm⟩ := HML.out
  have HBl := hid (hbelow_c HG9.out ((methodsL kd).length : Int) (by exact_mod_cast hml0) (by exact_mod_cast Nat.le_trans hml1 (by decide)))
  dsimp only at HBl
  have i0 := belowV_lo (x := nxt (nxt G.x)) (n := ((methodsL kd).length : Int)) (by exact_mod_cast hml0)
  have i9 := belowV_hi (x := nxt (nxt G.x)) (n := ((methodsL kd).length : Int)) (by exact_mod_cast hml0)
  obtain ⟨i, hi⟩ : ∃ i : Nat, belowV (nxt (nxt G.x)) ((methodsL kd).length : Int) = (i : Int) := Int.eq_ofNat_of_zero_le i0
  rw [hi] at HBl
  have hil : i < (methodsL kd).length := by rw [hi] at i9; exact Int.ofNat_lt.1 i9
  have hmi := hmm i hil
  have cm : w9.cell? ⟨lb, i, none⟩ = some (.int .i64 ((methodsL kd).getD i 0)) := by
    rw [heap_cell hlb]
    simp [i64s, List.getD_eq_getElem?_getD, List.getElem?_eq_getElem hil]
  have hlbl := heap_lt hlb
  obtain ⟨m, hm⟩ : ∃ m, m = (methodsL kd).getD i 0 := ⟨_, rfl⟩
  rw [← hm] at cm hmi
  have hak := askL_eq (x := nxt (nxt G.x)) (id := id) (proc := (p : Int)) (object := (n : Int)) (kd := kd) (i := i) (m := m) HKD.out.symm hi hm.symm
  have HAK := hid hak
  have hi0 : (0 : Int) ≤ (i : Int) := by omega
  have hi1 : (i : Int) < ((methodsL kd).length : Int) := Int.ofNat_lt.2 hil
  have hlbg : lb ≠ R.g := fun e => by
    have := HG9.out.cells
    rw [← e, hlb] at this
    exact absurd (Obj.cells.inj (Option.some.inj this)).2.1 (by decide)
  generalize (methodsL kd).length = LN at *
  clear hlb gr9 hak hm hmm HML HMe HG8 HB8 HO8 a3 i0 i9 hi hml0 hml1 hil
  go_wp2_with fail
  refine (HBl.out).mono ?_
  rintro e w10 ⟨rfl, x10⟩
  have cm' := x10.far cm hlbg
  have g10 := HG9.out.xset x10 (nxt_u _)
  have o10 := x10.box HO9.out m1
  have b10 := HB9.out.trans (x10.below hlo1.1 HG9.out.base_le)
  have f4 := heap_frozen o10 4 (by omega)
  have a4 := (box_all o10).2.2.2.2.1
  have g11 := g10.other bk 4 (.int .i64 m) m1 m3 m4 m5 hlv hrd
  have o11 : OpBox (w10.setCell ⟨bk, 4, none⟩ (.int .i64 m)) bk ⟨id, (p : Int), (n : Int), kd, m, 0, 0, false, 0, 0, 0⟩ := heap_setV o10 4 _ _ rfl
  have b11 := b10.setCell (p := ⟨bk, 4, none⟩) hbb (.int .i64 m)
  clear HBl cm x10 g10 o10 b10 HG9 HB9 HO9 hlbl
  go_upto_region 10 with fail
  generalize w10.setCell ⟨bk, 4, none⟩ (.int .i64 m) = W11 at *
  clear f4 cm'
  have a4 := (box_all o11).2.2.2.2.1
  have HG11 := hid g11
  have HO11 := hid o11
  have HB11 := hid b11
  clear g11 o11 b11
  have HS := hid (fun y o (h : askL (nxt (nxt G.x)) id (p : Int) (n : Int) = (y, o)) => stepG_some (c := c) (G := G) (id := id) (r := (y, o)) hch (by rw [HN.out]; exact h))
  dsimp only at HS
  have HAO := hid (ask_ok (procs := c.procs) (nxt (nxt G.x)) id (p : Int) (n : Int) ⟨by omega, by omega⟩)
  go_upto_region 11 with fail
  go_cut [98] from 98 (fun s wr => s = .bool (decide (m = 2 ∨ m = 3 ∨ m = 6 ∨ m = 8 ∨ m = 10 ∨ m = 11 ∨ m = 12)) ∧ wr = W11)
  case first =>
    have : m = 1 ∨ m = 2 ∨ m = 3 ∨ m = 4 ∨ m = 5 ∨ m = 6 ∨ m = 7 ∨ m = 8 ∨ m = 9 ∨ m = 10 ∨ m = 11 ∨ m = 12 ∨ m = 13 ∨ m = 14 := by omega
    clear HS HAO hr HAK HG11 HO11 HB11
    rcases this with rfl | rfl | rfl | rfl | rfl | rfl | rfl | rfl | rfl | rfl | rfl | rfl | rfl | rfl
    all_goals
      go_wp2_with fail
      go_meet
      exact ⟨rfl, rfl⟩
  obtain ⟨es, ew⟩ := hcut
  subst ew
  obtain ⟨XA, AA, hXA⟩ : ∃ XA AA, (XA, AA) = (if m = 2 ∨ m = 3 ∨ m = 6 ∨ m = 8 ∨ m = 10 ∨ m = 11 ∨ m = 12 then (nxt (nxt (nxt (nxt G.x))), belowV (nxt (nxt (nxt G.x))) 4) else (nxt (nxt (nxt G.x)), 0)) := ⟨_, _, rfl⟩
  have HXA := hid hXA
  have hux : U64 XA := by
    split at hXA <;> cases hXA <;> exact nxt_u _
  have hak : askL (nxt (nxt G.x)) id (p : Int) (n : Int) = if m = 3 then (nxt XA, ⟨id, (p : Int), (n : Int), kd, m, AA, belowV XA 4, false, 0, 0, 0⟩) else (XA, ⟨id, (p : Int), (n : Int), kd, m, AA, 0, false, 0, 0, 0⟩) := by
    rw [HAK.out]
    by_cases hm3 : m = 3
    · rw [if_pos hm3, if_pos hm3]
      rw [if_pos (.inr (.inl hm3))] at hXA
      cases hXA
      rfl
    · rw [if_neg hm3, if_neg hm3]
      by_cases hm2 : m = 2 ∨ m = 6 ∨ m = 8 ∨ m = 10 ∨ m = 11 ∨ m = 12
      · rw [if_pos hm2]
        rw [if_pos (by omega)] at hXA
        cases hXA
        rfl
      · rw [if_neg hm2]
        rw [if_neg (by omega)] at hXA
        cases hXA
        rfl
  have HA := hid hak
  clear hak HAK hXA
  go_upto_if 98 with fail
  go_cut [] from 98 (fun wr => HAt base wr c R { G with x := XA } ∧ OpBox wr bk ⟨id, (p : Int), (n : Int), kd, m, AA, 0, false, 0, 0, 0⟩ ∧ Below base w wr)
  case first =>
    have HB12 := hid (hbelow_c HG11.out 4 (by omega) (by omega))
    dsimp only at HB12
    have hxa := HXA.out
    clear HS HAO hr HA HXA
    by_cases hm2 : m = 2 ∨ m = 3 ∨ m = 6 ∨ m = 8 ∨ m = 10 ∨ m = 11 ∨ m = 12
    · rw [decide_eq_true hm2] at es
      subst es
      rw [if_pos hm2] at hxa
      cases hxa
      clear hm2
      go_wp2_with fail
      refine (HB12.out).mono ?_
      rintro e w12 ⟨rfl, x12⟩
      have g12 := HG11.out.xset x12 (nxt_u _)
      have o12 := x12.box HO11.out m1
      have b12 := HB11.out.trans (x12.below hlo1.1 HG11.out.base_le)
      have f5 := heap_frozen o12 5 (by omega)
      have a5 := (box_all o12).2.2.2.2.2.1
      generalize hV : belowV (nxt (nxt (nxt G.x))) 4 = V at *
      have g13 := hid (g12.other bk 5 (.int .i64 V) m1 m3 m4 m5 hlv hrd)
      have o13 : Hid (OpBox (w12.setCell ⟨bk, 5, none⟩ (.int .i64 V)) bk ⟨id, (p : Int), (n : Int), kd, m, V, 0, false, 0, 0, 0⟩) := hid (heap_setV o12 5 _ _ rfl)
      have b13 := hid (b12.setCell (p := ⟨bk, 5, none⟩) hbb (.int .i64 V))
      clear x12 g12 o12 b12 HG11 HO11 HB11 HB12
      go_wp2_with fail
      go_meet
      exact ⟨g13.out, o13.out, b13.out⟩
    · rw [decide_eq_false hm2] at es
      subst es
      rw [if_neg hm2] at hxa
      cases hxa
      clear hm2
      go_wp2_with fail
      go_meet
      exact ⟨HG11.out, HO11.out, HB11.out⟩
  clear HG11 HO11 HB11 es HXA
  obtain ⟨g13, o13, b13⟩ := hcut
  have HG13 := hid g13
  have HO13 := hid o13
  have HB13 := hid b13
  clear g13 o13 b13
  go_upto_region 13 with fail
  go_cut [103] from 98 (fun s wr => s = .bool (decide (m = 3)) ∧ wr = wc)
  case first =>
    by_cases hm3 : m = 3
    · subst hm3
      go_wp2_with fail
      go_meet
      exact ⟨rfl, rfl⟩
    · have q3 : (m == 3) = false := by simpa using hm3
      have HM3 := hid hm3
      clear hm3
      go_wp2_with fail
      go_meet
      exact ⟨by rw [decide_eq_false HM3.out], rfl⟩
  obtain ⟨es, ew⟩ := hcut
  subst ew
  go_upto_if 103 with fail
  go_cut [] from 98 (fun wr => ∃ y s2, askL (nxt (nxt G.x)) id (p : Int) (n : Int) = (y, ⟨id, (p : Int), (n : Int), kd, m, AA, s2, false, 0, 0, 0⟩) ∧ HAt base wr c R { G with x := y } ∧ OpBox wr bk ⟨id, (p : Int), (n : Int), kd, m, AA, s2, false, 0, 0, 0⟩ ∧ Below base w wr)
  case rest =>
    obtain ⟨y, s2, hak, g15, o15, b15⟩ := hcut
    have HR := hid (hr.trans (HS.out _ _ hak))
    have hao := HAO.out
    rw [hak] at hao
    have hqa := hao.1
    go_step
    exact rstepC_c rfl hcg' hk hok hnn hpP m1 m3 m4 m5 hlv hbb hrd hqa HKD HR g15 o15 b15
  case first =>
    clear HS HAO hr
    by_cases hm3 : m = 3
    · rw [decide_eq_true hm3] at es
      subst es
      have hak := HA.out
      rw [if_pos hm3] at hak
      have HA2 := hid hak
      clear hak HA hm3
      have HB14 := hid (hbelow_c HG13.out 4 (by omega) (by omega))
      dsimp only at HB14
      go_wp2_with fail
      refine (HB14.out).mono ?_
      rintro e w14 ⟨rfl, x14⟩
      have g14 := HG13.out.xset x14 (nxt_u _)
      have o14 := x14.box HO13.out m1
      have b14 := HB13.out.trans (x14.below hlo1.1 HG13.out.base_le)
      have f6 := heap_frozen o14 6 (by omega)
      have a6 := (box_all o14).2.2.2.2.2.2.1
      generalize hV2 : belowV XA 4 = V2 at *
      have g15 := hid (g14.other bk 6 (.int .i64 V2) m1 m3 m4 m5 hlv hrd)
      have o15 : Hid (OpBox (w14.setCell ⟨bk, 6, none⟩ (.int .i64 V2)) bk ⟨id, (p : Int), (n : Int), kd, m, AA, V2, false, 0, 0, 0⟩) := hid (heap_setV o14 6 _ _ rfl)
      have b15 := hid (b14.setCell (p := ⟨bk, 6, none⟩) hbb (.int .i64 V2))
      clear x14 g14 o14 b14 HG13 HO13 HB13 HB14
      go_wp2_with fail
      go_meet
      exact ⟨_, V2, HA2.out, g15.out, o15.out, b15.out⟩
    · rw [decide_eq_false hm3] at es
      subst es
      have hak := HA.out
      rw [if_neg hm3] at hak
      have HA2 := hid hak
      clear hak HA hm3
      go_wp2_with fail
      go_meet
      exact ⟨_, 0, HA2.out, HG13.out, HO13.out, HB13.out⟩
end Go.Proofs.Ytlhgdbangnohjaa
namespace Go.Proofs.Ytlhgdbangnohjaa
open Go.RowKit
set_option linter.unusedVariables false
set_option linter.unusedSimpArgs false
set_option maxRecDepth 100000 in
set_option maxHeartbeats 40000000 in
theorem rstep_c {base : Nat} {w : World} {c : GenC} {R : GR} {G : GenW} {k : Nat} (h : HAt base w c R G) (hcg : c.good) (hk : k ≤ 1000) (hok : GOk c G k) (id : Int) :
    Calls Try.prog 30 #[.pointer (some ⟨R.g, 0, none⟩), .int .i64 id] w (HStepPost base w c R.g (stepG c G id)) := by
  obtain ⟨RES, hRES⟩ : ∃ X, X = stepG c G id := ⟨_, rfl⟩
  rw [← hRES]
  have HRES := hid hRES
  clear hRES
  have hcg' := hid hcg
  obtain ⟨h1, h16, h2, h26, -⟩ := hcg
  obtain ⟨P, hP⟩ : ∃ P : Nat, c.procs = (P : Int) := ⟨c.procs.toNat, by omega⟩
  have hPt : c.procs.toNat = P := by omega
  have hP1 : 1 ≤ P := by omega
  have hP16 : P ≤ 16 := by omega
  have f0 := belowV_lo (x := G.x) (n := c.procs) h1
  have f9 := belowV_hi (x := G.x) (n := c.procs) h1
  have HB := hid (hbelow_c h c.procs h1 (by omega))
  obtain ⟨f, hf⟩ : ∃ f : Nat, belowV G.x c.procs = (f : Int) := Int.eq_ofNat_of_zero_le f0
  rw [hf] at HB f9
  have hfP : f < P := by omega
  have c1 := h.wc.2.1
  rw [hP] at c1 HB
  have HPt := hid hPt
  have HF := hid hf
  have HB0 := hid (h.base_le)
  have HH := hid h
  have HPI := hid hP
  clear hf h f0 f9 hP hPt h1 h16 h2 h26
  go_enter Try.func30, Try.ntmps30
  go_wp2_with fail
  refine (HB.out).mono ?_
  rintro e w1 ⟨rfl, x1⟩
  have h' := HH.out.xset x1 (nxt_u _)
  have hb := x1.below HH.out.lo.1 HH.out.base_le
  have HG1 := hid h'
  have HB1 := hid hb
  have c1' := h'.wc.2.1
  rw [HPI.out] at c1'
  have c8 := h'.wc.2.2.2.2.2.2.2.2.1
  rw [HPt.out] at c8
  have HGo := hid (fun p (hp : p < P) => h'.goneAt p (by rw [HPt.out]; exact hp))
  dsimp only at HGo
  have HST := hid (fun i hi => chooseL_step (gone := G.gone) (P := P) (f := f) (i := i) hi)
  have HC0 : chooseL G.gone c.procs.toNat (belowV G.x c.procs).toNat c.procs.toNat 0 = chooseL G.gone P f P 0 := by rw [HF.out, HPt.out]; simp
  have HCH := hid HC0
  have hmf : f % P = f := Nat.mod_eq_of_lt hfP
  have HMF := hid hmf
  clear h' hb x1 HB c1 HC0 hmf
  go_wp2_with fail
  go_loopw [4, 5] (fun a b wr => ∃ j : Nat, j ≤ P ∧ a = .int .i64 (((f + j) % P : Nat) : Int) ∧ b = .int .i64 (j : Int) ∧ Hid (chooseL G.gone P f P 0 = chooseL G.gone P f (P - j) j) ∧ Hid (0 < j → G.gone.getD f false = true) ∧ wr = w1) (fun _ b _ => P - (intOf b).toNat)
  case atStart => exact ⟨0, by omega, by rw [Nat.add_zero, HMF.out], rfl, hid rfl, hid (fun h => absurd h (by omega)), rfl⟩
  case round =>
    obtain ⟨j, hj, rfl, rfl, HC, HG0, rfl⟩ := hrel
    have hpl : (f + j) % P < P := Nat.mod_lt _ (by omega)
    have cg := HGo.out _ hpl
    have hst := HST.out j
    have hnx : (((f + j) % P : Nat) + 1) % P = (f + (j + 1)) % P := by rw [Nat.mod_add_mod]; rfl
    have hz : j = 0 → (f + j) % P = f := fun h => by rw [h, Nat.add_zero]; exact HMF.out
    have hend : j = P → (f + j) % P = f := fun h => by rw [h, Nat.add_mod_right]; exact HMF.out
    obtain ⟨p2, hp2⟩ : ∃ p2, p2 = (f + (j + 1)) % P := ⟨_, rfl⟩
    rw [← hp2] at hnx
    have HP2 := hid hp2
    clear hp2
    generalize (f + j) % P = p at *
    have hw0 : IntKind.i64.wrap ((p : Int) + 1) = (p : Int) + 1 := by rw [IntKind.wrap_i64]; omega
    have hw1 : IntKind.i64.wrap (((p : Int) + 1).tmod (P : Int)) = (p2 : Int) := by
      rw [Int.tmod_eq_emod_of_nonneg (by omega)]
      have : ((p : Int) + 1) % (P : Int) = (p2 : Int) := by rw [← hnx]; simp
      rw [this, IntKind.wrap_i64]
      have : p2 < P := by rw [← hnx]; exact Nat.mod_lt _ (by omega)
      omega
    have HPE : Hid (((p : Int) + 1) % (P : Int) = (p2 : Int)) := hid (by rw [← hnx]; simp)
    have hw2 : IntKind.i64.wrap ((j : Int) + 1) = (j : Int) + 1 := by rw [IntKind.wrap_i64]; omega
    have hp0 : (0 : Int) ≤ (p : Int) := by omega
    have hp1 : (p : Int) < (P : Int) := by omega
    have hne : ¬ (P : Int) = 0 := by omega
    have hST := hid hst
    have hZ := hid hz
    have hEND := hid hend
    clear hst hz hend hnx
    generalize hgo : G.gone.getD p false = go at *
    have HGP := hid hgo
    clear hgo
    by_cases hlt : j < P
    · have hi1 : (j : Int) < (P : Int) := by omega
      have hcj := hST.out hlt
      have HLT := hid hlt
      cases go
      · have hch : chooseL G.gone c.procs.toNat (belowV G.x c.procs).toNat c.procs.toNat 0 = some p := by
          rw [HCH.out, HC.out, hcj, if_pos rfl]
        have HCC := hid hch
        clear hcj hch
        go_upto_if 49 with fail
        go_cut [] from 50 (fun w2 => w2 = wr)
        case first =>
          go_wp2_with fail
          go_meet
          rfl
        subst hcut
        have hpP : p < c.procs.toNat := by rw [HPt.out]; exact hpl
        go_step
        exact rstepB_c rfl hcg'.out hk hok hpP HCC.out HRES.out HG1.out HB1.out
      · have hcn : chooseL G.gone P f P 0 = chooseL G.gone P f (P - (j + 1)) (j + 1) := by
          rw [HC.out, hcj, if_neg (by decide)]
        have HCN := hid hcn
        have hgf : Hid (G.gone.getD f false = true) := by
          refine hid ?_
          by_cases h0 : j = 0
          · rw [← hZ.out h0]; exact HGP.out
          · exact HG0.out (by omega)
        clear hcj hcn
        go_wp2_with fail
        go_roundw
        case rel => exact ⟨j + 1, HLT.out, by rw [← HP2.out, HPE.out], by go_num, HCN, hid (fun _ => hgf.out), trivial⟩
        case measure => simp [intOf]; have := HLT.out; omega
    · have hi1 : ¬ (j : Int) < (P : Int) := by omega
      have hjP : j = P := by omega
      have hpf := hEND.out hjP
      have hgt : go = true := by
        rw [← HGP.out, hpf]
        exact HG0.out (by omega)
      subst hgt
      have hch : chooseL G.gone c.procs.toNat (belowV G.x c.procs).toNat c.procs.toNat 0 = none := by
        rw [HCH.out, HC.out, hjP, Nat.sub_self]
        rfl
      have HN := hid (stepG_none (c := c) (G := G) (id := id) hch)
      clear hjP hpf hch
      go_wp2_with fail
      first | go_end0 | ((try simp only [Exit.inBlock, Exit.then]); refine bodyPost_ret (results_none rfl _ _ _) rfl ?_)
      exact .intro R rfl rfl (by rw [HRES.out, HN.out]; exact HG1.out) HB1.out
end Go.Proofs.Ytlhgdbangnohjaa
namespace Go.Proofs.Ytlhgdbangnohjaa
open Go.RowKit
set_option linter.unusedVariables false
set_option linter.unusedSimpArgs false
def qcells (c : GenC) (X : Int) (gf gg : Nat) (sv : Value) : Array Value := #[.int .u64 c.seed, .int .i64 c.procs, .int .i64 c.objects, .int .i64 c.ops, .int .i64 c.wrong, .int .i64 c.pending, .int .u64 X,
  .slice (some ⟨gf, 0, none⟩) c.procs.toNat c.procs.toNat, .slice (some ⟨gg, 0, none⟩) c.procs.toNat c.procs.toNat, sv, .int .i64 0, .slice none 0 0]
structure HPre (base : Nat) (w : World) (c : GenC) (g gf gg : Nat) (sv : Value) (svs : List Value) (X : Int) (k : Nat) : Prop where
  cells : w.heap[g]? = some (.cells (qcells c X gf gg sv) 70 (0, 0))
  ux : U64 X
  free : w.heap[gf]? = some (.cells (i64s (List.replicate c.procs.toNat 0)).toArray 3 (0, 0))
  gone : w.heap[gg]? = some (.cells (boolCells (List.replicate c.procs.toNat false)).toArray 4 (0, 0))
  st : w.ownsRow base 23 1 sv k svs
  rows : ∀ i, i < k → Ints w (svs.getD i (.slice none 0 0)) (firstV i)
  apart : g ≠ gf ∧ g ≠ gg ∧ gf ≠ gg
  svd : ∀ q, sv.ownBlock = some q → q ≠ g ∧ q ≠ gf ∧ q ≠ gg
  rowd : ∀ i, i < k → ∀ a n m, svs.getD i (.slice none 0 0) = .slice (some a) n m → 0 < n → a.block < w.heap.size ∧ a.block ≠ g ∧ a.block ≠ gf ∧ a.block ≠ gg ∧ sv.ownBlock ≠ some a.block
  lo : base ≤ g ∧ base ≤ gf ∧ base ≤ gg
section
variable {base : Nat} {w w' : World} {c : GenC} {g gf gg : Nat} {sv : Value} {svs : List Value} {X : Int} {k : Nat}
theorem HPre.grow (h : HPre base w c g gf gg sv svs X k) (hg : Grow w w') : HPre base w' c g gf gg sv svs X k where
  cells := hg.heap h.cells
  ux := h.ux
  free := hg.heap h.free
  gone := hg.heap h.gone
  st := own_keep h.st (fun k hk => hg.block k (h.st.lt k hk).2)
  rows := fun i hi => (h.rows i hi).grow hg
  apart := h.apart
  svd := h.svd
  rowd := fun i hi a n m e e0 => by
    obtain ⟨h1, h2⟩ := h.rowd i hi a n m e e0
    exact ⟨Nat.lt_of_lt_of_le h1 hg.size, h2⟩
  lo := h.lo
theorem HPre.base_le (h : HPre base w c g gf gg sv svs X k) : base ≤ w.heap.size := Nat.le_trans h.lo.1 (Nat.le_of_lt (heap_lt h.cells))
theorem HPre.gcells (h : HPre base w c g gf gg sv svs X k) (hg : w.grownBy w' sv.ownBlock) : w'.heap[g]? = some (.cells (qcells c X gf gg sv) 70 (0, 0)) :=
  (hg.block g (heap_lt h.cells) (fun e => (h.svd g e.symm).1 rfl)).trans h.cells
theorem HPre.pushedB {w0 : World} (h : HPre base w c g gf gg sv svs X k) (hb : Below base w0 w) (hg : w.grownBy w' sv.ownBlock) : Below base w0 w' :=
  Below.grown hb hg h.base_le (fun k hk => (h.st.lt k hk).1)
theorem HPre.rowNew (h : HPre base w c g gf gg sv svs X k) {v : Value} {xs : List Int} (hv : IntsF w.heap.size w' v xs) : ∀ a n m, v = .slice (some a) n m → 0 < n → a.block < w'.heap.size ∧ a.block ≠ g ∧ a.block ≠ gf ∧ a.block ≠ gg ∧ sv.ownBlock ≠ some a.block := fun a n m e e0 => by
  have h1 := heap_lt h.cells
  have h3 := heap_lt h.free
  have h4 := heap_lt h.gone
  have e1 := hv.2 a n m e
  obtain ⟨p, cap, e2, hl, hc, hn⟩ := hv.1
  rw [e2] at e
  cases e
  obtain ⟨b, off, e3, e4⟩ := hc e0
  cases e3
  have := World.block_lt_of_cell? w' _ (e4 0 e0)
  dsimp only at this e1 ⊢
  refine ⟨this, by omega, by omega, by omega, fun e5 => ?_⟩
  have := (h.st.lt _ e5).2
  omega
theorem HPre.push (h : HPre base w c g gf gg sv svs X k) (rv : Value) {b cap : Nat} (ho : w'.ownsRow base 23 1 (.slice (some ⟨b, 0, none⟩) (k + 1) cap) (k + 1) (svs ++ [rv])) (hg : w.grownBy w' sv.ownBlock) (hat : sv.ownBlock = some b ∨ b = w.heap.size)
    (hr : Ints w rv (firstV k)) (hrd : ∀ a n m, rv = .slice (some a) n m → 0 < n → a.block < w.heap.size ∧ a.block ≠ g ∧ a.block ≠ gf ∧ a.block ≠ gg ∧ sv.ownBlock ≠ some a.block) :
    HPre base (w'.setCell ⟨g, 9, none⟩ (.slice (some ⟨b, 0, none⟩) (k + 1) cap)) c g gf gg (.slice (some ⟨b, 0, none⟩) (k + 1) cap) (svs ++ [rv]) X (k + 1) := by
  obtain ⟨a2, a3, a6⟩ := h.apart
  have hl1 := heap_lt h.cells
  have hl3 := heap_lt h.free
  have hl4 := heap_lt h.gone
  have ho2 := only_set w' g 9 (.slice (some ⟨b, 0, none⟩) (k + 1) cap)
  have hk : ∀ q, q < w.heap.size → sv.ownBlock ≠ some q → w'.heap[q]? = w.heap[q]? := fun q h1 h2 => hg.block q h1 (fun e => h2 e.symm)
  have hn : ∀ q, q = g ∨ q = gf ∨ q = gg → sv.ownBlock ≠ some q := fun q hq e => by
    obtain ⟨h1, h3, h4⟩ := h.svd q e
    rcases hq with rfl | rfl | rfl
    · exact h1 rfl
    · exact h3 rfl
    · exact h4 rfl
  have hb : b ≠ g ∧ b ≠ gf ∧ b ≠ gg := by
    rcases hat with e | e
    · exact h.svd b e
    · exact ⟨by omega, by omega, by omega⟩
  have hsl : svs.length = k := by have := h.st.1; omega
  have hkeep : ∀ (v : Value) (xs : List Int), Ints w v xs → (∀ a n m, v = .slice (some a) n m → 0 < n → a.block < w.heap.size ∧ a.block ≠ g ∧ sv.ownBlock ≠ some a.block) → Ints (w'.setCell ⟨g, 9, none⟩ (.slice (some ⟨b, 0, none⟩) (k + 1) cap)) v xs := fun v xs hv hd =>
    hv.keep (fun a n m e e0 => by
      obtain ⟨d1, d2, d3⟩ := hd a n m e e0
      exact (ho2.block _ d2).trans (hk _ d1 d3))
  have hq : ∀ (v : Value), (∀ a n m, v = .slice (some a) n m → 0 < n → a.block < w.heap.size ∧ a.block ≠ g ∧ a.block ≠ gf ∧ a.block ≠ gg ∧ sv.ownBlock ≠ some a.block) → ∀ a n m, v = .slice (some a) n m → 0 < n → a.block < (w'.setCell ⟨g, 9, none⟩ (.slice (some ⟨b, 0, none⟩) (k + 1) cap)).heap.size ∧ a.block ≠ g ∧ a.block ≠ gf ∧ a.block ≠ gg ∧ (Value.slice (some ⟨b, 0, none⟩) (k + 1) cap).ownBlock ≠ some a.block := fun v hd a n m e e0 => by
    obtain ⟨d1, d2, d4, d5, d6⟩ := hd a n m e e0
    refine ⟨by rw [ho2.size]; exact Nat.lt_of_lt_of_le d1 hg.size, d2, d4, d5, fun e5 => ?_⟩
    have e6 : b = a.block := Option.some.inj e5
    rcases hat with e7 | e7
    · exact d6 (by rw [e7, e6])
    · omega
  exact {
    cells := heap_setV ((hk _ hl1 (hn _ (.inl rfl))).trans h.cells) 9 _ _ rfl
    ux := h.ux
    free := (ho2.block _ (fun e => a2 e.symm)).trans ((hk _ hl3 (hn _ (.inr (.inl rfl)))).trans h.free)
    gone := (ho2.block _ (fun e => a3 e.symm)).trans ((hk _ hl4 (hn _ (.inr (.inr rfl)))).trans h.gone)
    st := own_keep ho (fun q e => ho2.block q (fun e2 => by
      have e3 : b = q := Option.some.inj e
      exact hb.1 (e3.trans e2)))
    rows := fun i hi => by
      rw [getD_snoc, hsl]
      by_cases e : i = k
      · rw [if_pos e, e]
        exact hkeep _ _ hr (fun a n m e e0 => by
          obtain ⟨d1, d2, d4, d5, d6⟩ := hrd a n m e e0
          exact ⟨d1, d2, d6⟩)
      · rw [if_neg e]
        exact hkeep _ _ (h.rows i (by omega)) (fun a n m e e0 => by
          obtain ⟨d1, d2, d4, d5, d6⟩ := h.rowd i (by omega) a n m e e0
          exact ⟨d1, d2, d6⟩)
    apart := h.apart
    svd := fun q e => by
      have e3 : b = q := Option.some.inj e
      rw [← e3]
      exact hb
    rowd := fun i hi => by
      rw [getD_snoc, hsl]
      by_cases e : i = k
      · rw [if_pos e]
        exact hq _ hrd
      · rw [if_neg e]
        exact hq _ (h.rowd i (by omega))
    lo := h.lo }
/-- All is ready for the first step. -/
theorem HPre.done (h : HPre base w c g gf gg sv svs X k) (hk : k = c.objects.toNat) (h0 : 0 < k) (hX : X = if c.seed = 0 then 1 else c.seed) : ∃ R : GR, R.g = g ∧ HAt base w c R (firstG c) := by
  obtain ⟨gst, cst, rfl, hb, hlt⟩ := h.st.form h0
  obtain ⟨a2, a3, a6⟩ := h.apart
  obtain ⟨b1, b3, b4⟩ := h.svd gst rfl
  have hst : ∀ i, i < k → (firstG c).states.getD i [] = firstV i := fun i hi => by
    simp only [firstG, firstV, List.getD_eq_getElem?_getD, List.getElem?_map, List.getElem?_range (show i < c.objects.toNat by omega)]
    rfl
  subst hk
  refine ⟨⟨g, 0, gf, gg, gst, cst, .slice none 0 0, svs⟩, rfl, ?_⟩
  exact {
    cells := by rw [show (firstG c).x = X from hX.symm]; exact h.cells
    ux := by rw [show (firstG c).x = X from hX.symm]; exact h.ux
    free := h.free
    freeN := by simp [firstG]
    gone := h.gone
    goneN := by simp [firstG]
    st := h.st
    stN := by simp [firstG]
    rows := fun i hi => by rw [hst i hi]; exact h.rows i hi
    own := World.ownsRow_nil _ _ _ _
    apart := ⟨a2, a3, Ne.symm b1, a6, Ne.symm b3, Ne.symm b4⟩
    lvd := fun q e => by cases e
    rowd := fun i hi a n m e e0 => by
      obtain ⟨d1, d2, d4, d5, d6⟩ := h.rowd i hi a n m e e0
      refine ⟨d1, d2, d4, d5, fun e2 => d6 (by rw [e2]; rfl), fun e2 => by cases e2⟩
    lo := h.lo }
end
theorem HPre.first {base : Nat} {w : World} {c : GenC} {g gf gg P : Nat} {N M X : Int} (hP : c.procs = (P : Int)) (hN : c.objects = N) (hM : c.ops = M)
    (hg : w.heap[g]? = some (.cells #[.int .u64 c.seed, .int .i64 (P : Int), .int .i64 N, .int .i64 M, .int .i64 c.wrong, .int .i64 c.pending, .int .u64 X, .slice (some ⟨gf, 0, none⟩) P P, .slice (some ⟨gg, 0, none⟩) P P, .slice none 0 0, .int .i64 0, .slice none 0 0] 70 (0, 0)))
    (hx : U64 X) (hf : w.heap[gf]? = some (.cells (madeCells #[.int .i64 0] P) 3 (0, 0))) (hb : w.heap[gg]? = some (.cells (madeCells #[.bool false] P) 4 (0, 0)))
    (ha : g ≠ gf ∧ g ≠ gg ∧ gf ≠ gg) (hl : base ≤ g ∧ base ≤ gf ∧ base ≤ gg) : HPre base w c g gf gg (.slice none 0 0) [] X 0 where
  cells := by
    rw [hg]
    unfold qcells
    rw [hP, hN, hM, Int.toNat_natCast]
  ux := hx
  free := by rw [hf, made_ints, hP, Int.toNat_natCast]
  gone := by rw [hb, made_bools, hP, Int.toNat_natCast]
  st := World.ownsRow_nil _ _ _ _
  rows := fun i hi => by omega
  apart := ha
  svd := fun q e => by cases e
  rowd := fun i hi => by omega
  lo := hl
set_option maxRecDepth 100000 in
/-- The first state of an object, as the reference tells it. -/
theorem RFirst_r (i : Nat) (w : World) : Calls Try.prog 29 #[.int .i64 ((i : Int) % 6 + 1)] w fun e w' => (∃ v, e = .returned v ∧ IntsF w.heap.size w' v (firstV i)) ∧ Grow w w' := by
  unfold firstV
  by_cases h1 : i % 6 + 1 = 1
  · rw [if_pos (.inl h1), show (i : Int) % 6 + 1 = 1 by omega]
    go_enter Try.func29, Try.ntmps29
    go_wp2_with fail
    go_ret
    exact ⟨⟨_, rfl, ints_row w [0] (by simp), Lies.at (Nat.le_refl _)⟩, Grow.alloc _ _⟩
  · by_cases h2 : i % 6 + 1 = 2
    · rw [if_pos (.inr h2), show (i : Int) % 6 + 1 = 2 by omega]
      go_enter Try.func29, Try.ntmps29
      go_wp2_with fail
      go_ret
      exact ⟨⟨_, rfl, ints_row w [0] (by simp), Lies.at (Nat.le_refl _)⟩, Grow.alloc _ _⟩
    · rw [if_neg (by omega)]
      refine (RFirstNil ((i : Int) % 6 + 1) w (by omega) (by omega)).mono ?_
      rintro e w' ⟨rfl, hg⟩
      exact ⟨⟨_, rfl, IntsF.nil⟩, hg⟩
end Go.Proofs.Ytlhgdbangnohjaa
namespace Go.Proofs.Ytlhgdbangnohjaa
open Go.RowKit
set_option linter.unusedVariables false
set_option linter.unusedSimpArgs false
set_option maxRecDepth 100000 in
set_option maxHeartbeats 8000000 in
theorem RHistoryBad_c (c : GenC) (hc : ¬ c.good) (w : World) : Calls Try.prog 19 #[.agg #[.int .u64 c.seed, .int .i64 c.procs, .int .i64 c.objects, .int .i64 c.ops, .int .i64 c.wrong, .int .i64 c.pending]] w (HistPost w.heap.size w (histG c)) := by
  have HGd := hid (fun w => RGood_c c w)
  rw [decide_eq_false hc] at HGd
  have hh : histG c = ([], 1) := by unfold histG; rw [if_neg hc]
  rw [hh]
  clear hh hc
  obtain ⟨seed, procs, objects, ops, wrong, pending⟩ := c
  go_enter Try.func19, Try.ntmps19
  go_wp2_with fail
  refine (HGd.out _).mono ?_
  rintro e w1 ⟨rfl, b1⟩
  have g1 : Grow w w1 := Grow.trans (Grow.alloc _ _) b1
  clear b1
  go_wp2_with fail
  go_ret2
  exact ⟨_, rfl, World.ownsRow_nil _ _ _ _, g1⟩
set_option maxRecDepth 100000 in
set_option maxHeartbeats 20000000 in
theorem RHistoryGood_c (c : GenC) (hc : c.good) (hu : U64 c.seed) (w : World) : Calls Try.prog 19 #[.agg #[.int .u64 c.seed, .int .i64 c.procs, .int .i64 c.objects, .int .i64 c.ops, .int .i64 c.wrong, .int .i64 c.pending]] w (HistPost w.heap.size w (histG c)) := by
  have HGd := hid (fun w => RGood_c c w)
  rw [decide_eq_true hc] at HGd
  have HUS : Hid (U64 (if c.seed = 0 then 1 else c.seed)) := hid (seedV_u hu)
  clear hu
  have hh : histG c = ((stepsG c (firstG c) c.ops.toNat).l, 0) := by unfold histG; rw [if_pos hc]
  rw [hh]
  clear hh
  have HSt := hid (fun (base : Nat) (w : World) (R : GR) (k : Nat) (hk : k ≤ 64) (h : HAt base w c R (stepsG c (firstG c) k)) => rstep_c h hc (by omega) (steps_ok hc k hk) ((k : Int) + 1))
  have hc2 := hc
  obtain ⟨h1, h16, h2, h26, h3, h64, -⟩ := hc2
  have HCc := hid hc
  obtain ⟨P, hP⟩ : ∃ P : Nat, c.procs = (P : Int) := ⟨c.procs.toNat, by omega⟩
  obtain ⟨N, hN⟩ : ∃ N : Nat, c.objects = (N : Int) := ⟨c.objects.toNat, by omega⟩
  obtain ⟨M, hM⟩ : ∃ M : Nat, c.ops = (M : Int) := ⟨c.ops.toNat, by omega⟩
  have hMt : c.ops.toNat = M := by omega
  rw [hMt]
  have HPt := hid (show c.procs.toNat = P by omega)
  have HNt := hid (show c.objects.toNat = N by omega)
  have HP := hid hP
  have HN := hid hN
  have HM := hid hM
  have hN1 : 1 ≤ N := by omega
  have hN16 : N ≤ 16 := by omega
  have hP1 : 1 ≤ P := by omega
  have hP16 : P ≤ 16 := by omega
  have hM64 : M ≤ 64 := by omega
  rw [hP, hN, hM]
  rw [hP, hN, hM] at HGd
  clear hc h1 h16 h2 h26 h3 h64 hP hN hM hMt
  go_enter Try.func19, Try.ntmps19
  go_wp2_with fail
  refine (HGd.out _).mono ?_
  rintro e w1 ⟨rfl, b1⟩
  have g1 : Grow w w1 := Grow.trans (Grow.alloc _ _) b1
  have hb : w1.heap[w.heap.size]? = some (.cells #[.int .u64 c.seed, .int .i64 (P : Int), .int .i64 (N : Int), .int .i64 (M : Int), .int .i64 c.wrong, .int .i64 c.pending] 37 (0, 0)) := b1.heap (heap_new w _)
  have hz : w.heap.size < w1.heap.size := heap_lt hb
  have c0 : w1.cell? ⟨w.heap.size, 0, none⟩ = some (.int .u64 c.seed) := by rw [heap_cell hb]; rfl
  have c1 : w1.cell? ⟨w.heap.size, 1, none⟩ = some (.int .i64 (P : Int)) := by rw [heap_cell hb]; rfl
  have c2 : w1.cell? ⟨w.heap.size, 2, none⟩ = some (.int .i64 (N : Int)) := by rw [heap_cell hb]; rfl
  have c3 : w1.cell? ⟨w.heap.size, 3, none⟩ = some (.int .i64 (M : Int)) := by rw [heap_cell hb]; rfl
  have c4 : w1.cell? ⟨w.heap.size, 4, none⟩ = some (.int .i64 c.wrong) := by rw [heap_cell hb]; rfl
  have c5 : w1.cell? ⟨w.heap.size, 5, none⟩ = some (.int .i64 c.pending) := by rw [heap_cell hb]; rfl
  have HCF := hid hb
  have HNew0 := fun w => Seed_c c.seed w
  unfold seedV at HNew0
  generalize hX0 : (if c.seed = 0 then (1 : Int) else c.seed) = X0 at HNew0
  have HNew := hid HNew0
  have HX0 := hid hX0
  have HUX : Hid (U64 X0) := hid (by rw [← hX0]; exact HUS.out)
  clear HNew0 hX0
  clear b1 hb HGd
  go_upto_region 3 with fail
  go_cut [4] from 5 (fun s4 wr => ∃ g gf gg, s4 = .pointer (some ⟨g, 0, none⟩) ∧ HPre (w.heap.size + 1) wr c g gf gg (.slice none 0 0) [] X0 0 ∧ Grow w1 wr)
  case first =>
    have hmk1 := fun W => run_make_row' (P := Try.prog) 23 3 (.int .i64 0) 8 Try.underlying23 infoIntG rfl .i64 .i64 P (by omega) (by omega) W
    have hmk2 := fun W => run_make_row' (P := Try.prog) 62 4 (.bool false) 1 Try.underlying62 infoBoolG rfl .i64 .i64 P (by omega) (by omega) W
    have hc6 := And.intro c0 (And.intro c1 (And.intro c2 (And.intro c3 (And.intro c4 c5))))
    go_region_held3 (fun w' => w'.cell? ⟨w.heap.size, 0, none⟩ = some (.int .u64 c.seed) ∧ w'.cell? ⟨w.heap.size, 1, none⟩ = some (.int .i64 (P : Int)) ∧ w'.cell? ⟨w.heap.size, 2, none⟩ = some (.int .i64 (N : Int)) ∧ w'.cell? ⟨w.heap.size, 3, none⟩ = some (.int .i64 (M : Int)) ∧ w'.cell? ⟨w.heap.size, 4, none⟩ = some (.int .i64 c.wrong) ∧ w'.cell? ⟨w.heap.size, 5, none⟩ = some (.int .i64 c.pending))
      (first | (with_reducible exact keep6d hc6) | (with_reducible exact hc6) | (with_reducible exact keep6 (by assumption) _) | (with_reducible exact keep6 hc6 _) | (with_reducible exact keep6 (keep6 hc6 _) _) | (with_reducible exact keep6 (keep6 (keep6 hc6 _) _) _) | (with_reducible exact keep6d (keep6 hc6 _)) | (with_reducible exact keep6d (keep6 (keep6 hc6 _) _)) | (with_reducible exact keep6d (keep6 (keep6 (keep6 hc6 _) _) _)) | (with_reducible exact keep6d (keep6 (keep6 (keep6 (keep6 hc6 _) _) _) _)))
      ((go_at_call 10
        refine (HNew.out _).mono ?_
        rintro e w2 ⟨rfl, rfl⟩))
    all_goals (go_wp2_with fail; go_meet)
    all_goals first
      | (refine ⟨w1.heap.size + 1 + 1, w1.heap.size, w1.heap.size + 1, rfl, HPre.first HP.out HN.out HM.out ((Grow.drew _).heap (heap_newG0 _ _ (by simp))) HUX.out ((Grow.drew _).heap (heap_alloc_keep (heap_alloc_keep (heap_new _ _) _) _)) ((Grow.drew _).heap (heap_alloc_keep (heap_newG0 _ _ (by simp)) _)) ⟨by omega, by omega, by omega⟩ ⟨by omega, by omega, by omega⟩, Grow.trans (Grow.trans (Grow.trans (Grow.alloc _ _) (Grow.alloc _ _)) (Grow.alloc _ _)) (Grow.drew _)⟩)
      | (refine ⟨w1.heap.size + 1 + 1, w1.heap.size + 1, w1.heap.size, rfl, HPre.first HP.out HN.out HM.out ((Grow.drew _).heap (heap_newG0 _ _ (by simp))) HUX.out ((Grow.drew _).heap (heap_alloc_keep (heap_newG0 _ _ (by simp)) _)) ((Grow.drew _).heap (heap_alloc_keep (heap_alloc_keep (heap_new _ _) _) _)) ⟨by omega, by omega, by omega⟩ ⟨by omega, by omega, by omega⟩, Grow.trans (Grow.trans (Grow.trans (Grow.alloc _ _) (Grow.alloc _ _)) (Grow.alloc _ _)) (Grow.drew _)⟩)
  case rest =>
    obtain ⟨g, gf, gg, e4, hpre, hgr⟩ := hcut
    subst e4
    have c2' := hgr.cell c2
    have HPr0 := hid hpre
    have HGr := hid hgr
    have hB1 : w.heap.size + 1 ≤ w1.heap.size := hz
    have c3w := hid c3
    have c2w := hid c2
    obtain ⟨i0, hi0, hz0, hz1, hz2⟩ := info_parts infoIntsG
    clear c0 c1 c2 c3 c4 c5 HNew HUX hpre hgr
    go_wp2_with fail
    go_loopw [5] (fun i wr => ∃ (j : Nat) (sv : Value) (svs : List Value), j ≤ N ∧ i = .int .i64 (j : Int) ∧ Hid (HPre (w.heap.size + 1) wr c g gf gg sv svs X0 j) ∧ Hid (Below (w.heap.size + 1) w1 wr)) (fun i _ => N - (intOf i).toNat)
    case atStart => exact ⟨0, _, _, by omega, rfl, HPr0, hid (HGr.out.below hB1)⟩
    case round =>
      obtain ⟨j, sv, svs, hj, rfl, HPr, HBe⟩ := hrel
      have c2r := (Below.cell HBe.out (p := ⟨w.heap.size, 2, none⟩) (by show w.heap.size < w.heap.size + 1; omega)).trans c2w.out
      by_cases hlt : j < N
      · have hi1 : (j : Int) < (N : Int) := by omega
        have HFi := hid (fun w => RFirst_r j w)
        have hw1 : IntKind.i64.wrap ((j : Int).tmod 6 + 1) = (j : Int) % 6 + 1 := by rw [Int.tmod_eq_emod_of_nonneg (by omega), IntKind.wrap_i64]; omega
        obtain ⟨A, kc, hsf⟩ := own_formM HPr.out.st
        have c9 : wr.cell? ⟨g, 9, none⟩ = some sv := by rw [heap_cell HPr.out.cells]; rfl
        rw [hsf] at c9
        have HSF := hid hsf
        clear hsf
        generalize hK : (j : Int) % 6 + 1 = kd at *
        clear hK
        go_upto_region 7 with fail
        go_region_law
          ((first
            | (go_simp; go_at_call 29
               refine (HFi.out wr.drew).mono ?_
               rintro e w2 ⟨⟨v2, rfl, i2⟩, b2⟩
               have HI2 := hid i2
               obtain ⟨⟨p2, k2, rfl, -, -, -⟩, -⟩ := i2
               generalize (firstV j).length = LF at *
               have g2 := hid (Grow.trans (Grow.drew wr) b2)
               have c92 := g2.out.cell c9
               have cA := (Grow.alloc w2 (.cells #[.slice p2 LF k2] 23)).cell c92
               clear b2)
            | (refine step_append_lies _ rfl _ _ 63 rfl (w.heap.size + 1) 23 i0 _ 1 24 Try.underlying63 hi0 hz0 hz1 hz2 rfl (by omega) (.slice A j kc) j svs rfl (own_turn HSF.out (HPr.out.grow (Grow.trans g2.out (Grow.alloc w2 (.cells #[.slice p2 LF k2] 23)))).st) ⟨w2.heap.size, 0, none⟩ 1 1 [.slice p2 LF k2] rfl rfl (World.news_of_block (cs := #[.slice p2 LF k2]) (heap_new w2 _)) (by simp [Value.oneCell']) (by omega) (by unfold maxLen; omega) (by omega) (HPr.out.grow (Grow.trans g2.out (Grow.alloc w2 (.cells #[.slice p2 LF k2] 23)))).base_le _ rfl ?_
               intro b5 cap5 wn hown hgr hat hlt5
               rw [← HSF.out] at hgr hat
               have GP := HPr.out.grow (Grow.trans g2.out (Grow.alloc w2 (.cells #[.slice p2 LF k2] 23)))
               have rn := HPr.out.rowNew (w' := w2.alloc (.cells #[.slice p2 LF k2] 23)) ⟨HI2.out.1.grow (Grow.alloc _ _), HI2.out.2⟩
               have gn := hid (GP.push (.slice p2 LF k2) hown hgr hat (HI2.out.1.grow (Grow.alloc _ _)) rn)
               have bn := hid ((GP.pushedB (HBe.out.trans ((Grow.trans g2.out (Grow.alloc w2 (.cells #[.slice p2 LF k2] 23))).mono HPr.out.base_le)) hgr).setCell (p := ⟨g, 9, none⟩) HPr.out.lo.1 (.slice (some ⟨b5, 0, none⟩) (j + 1) cap5))
               have c9n : wn.cell? ⟨g, 9, none⟩ = some sv := heap_cell (GP.gcells hgr) 9
               have f9n : wn.frozen? ⟨g, 9, none⟩ = false := heap_frozen (GP.gcells hgr) 9 (by omega)
               clear GP rn hown hgr hat hlt5)))
        all_goals (go_wp2_with fail; go_roundw)
        all_goals first
          | (case rel => exact ⟨j + 1, _, _, by omega, by go_num, gn, bn⟩)
          | (case measure => simp [intOf]; omega)
      · have hjN : j = c.objects.toNat := by rw [HNt.out]; omega
        obtain ⟨R, hRg, hat⟩ := HPr.out.done hjN (by omega) HX0.out.symm
        have HRg := hid hRg
        have HAt0 := hid hat
        have c3' := (Below.cell HBe.out (p := ⟨w.heap.size, 3, none⟩) (by show w.heap.size < w.heap.size + 1; omega)).trans c3w.out
        have hi1 : ¬ (j : Int) < (N : Int) := by omega
        clear hRg hat HPr hjN
        go_wp2_with fail
        go_loopw [6] (fun i wr => ∃ (k : Nat) (R : GR), k ≤ M ∧ i = .int .i64 ((k : Int) + 1) ∧ Hid (R.g = g) ∧ Hid (HAt (w.heap.size + 1) wr c R (stepsG c (firstG c) k)) ∧ Hid (Below (w.heap.size + 1) w1 wr)) (fun i _ => M + 1 - (intOf i).toNat)
        case atStart => exact ⟨0, R, by omega, rfl, HRg, HAt0, HBe⟩
        case round =>
          clear HRg HAt0 HBe
          obtain ⟨k, R, hk, rfl, HRg, HGa, HBe⟩ := hrel
          have c3r := (Below.cell HBe.out (p := ⟨w.heap.size, 3, none⟩) (by show w.heap.size < w.heap.size + 1; omega)).trans c3w.out
          by_cases hlt2 : k < M
          · have hi2 : (k : Int) + 1 ≤ (M : Int) := by omega
            have hw : IntKind.i64.wrap ((k : Int) + 1 + 1) = (k : Int) + 1 + 1 := by rw [IntKind.wrap_i64]; omega
            have HS := hid (HSt.out _ _ R k (by omega) HGa.out)
            rw [HRg.out] at HS
            go_wp2_with fail
            refine (HS.out).mono ?_
            rintro e w2 ⟨⟨v, rfl⟩, ⟨R2, hg2, ga2⟩, bb2⟩
            have HR2 := hid hg2
            have HG2 := hid ga2
            have HB2 := hid (HBe.out.trans bb2)
            clear hg2 ga2 bb2 HS
            go_wp2_with fail
            go_roundw
            case rel => exact ⟨k + 1, R2, by omega, by simp, HR2, HG2, HB2⟩
            case measure => simp [intOf]; omega
          · have hkM : k = M := by omega
            have hi2 : ¬ (k : Int) + 1 ≤ (M : Int) := by omega
            obtain ⟨lA, lk, hlf⟩ := own_formM HGa.out.own
            have c11 := HGa.out.wc.2.2.2.2.2.2.2.2.2.2.2
            rw [HRg.out, hlf] at c11
            have HOw := hid (own_turn hlf HGa.out.own)
            have HKM := hid hkM
            generalize hLL : (stepsG c (firstG c) k).l.length = LL at c11
            have hfin : wr.ownsRow w.heap.size 52 11 (.slice lA LL lk) (stepsG c (firstG c) M).l.length (opCells (stepsG c (firstG c) M).l) := by
              rw [← HKM.out, ← hLL]
              exact own_mono HOw.out (Nat.le_succ _)
            have HF := hid hfin
            clear hlf hkM hLL hfin
            go_wp2_with fail
            go_ret2
            exact ⟨_, rfl, HF.out, Below.trans (show Below w.heap.size w w1 from g1) (HBe.out.mono (Nat.le_succ _))⟩
theorem RHistory_c (c : GenC) (hu : U64 c.seed) (w : World) : Calls Try.prog 19 #[.agg #[.int .u64 c.seed, .int .i64 c.procs, .int .i64 c.objects, .int .i64 c.ops, .int .i64 c.wrong, .int .i64 c.pending]] w (HistPost w.heap.size w (histG c)) := by
  by_cases h : c.good
  · exact RHistoryGood_c c h hu w
  · exact RHistoryBad_c c h w
end Go.Proofs.Ytlhgdbangnohjaa
