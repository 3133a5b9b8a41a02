/- One step of gen, once it is known who asks. -/
import Derived.Test.YtlhgdbangnohjaaGStepP2
import Derived.Deep.AppendLies
namespace Go.Proofs.Ytlhgdbangnohjaa
open Go.RowKit
set_option linter.unusedVariables false
set_option linter.unusedSimpArgs false
attribute [local go_sem ↓ high] run_imax
set_option maxRecDepth 100000 in
set_option maxHeartbeats 40000000 in
theorem step1_c {base : Nat} {w : World} {c : GenC} {R : GR} {G : GenW} {k : Nat} (h : GAt base w c R G) (hcg : c.good) (hk : k ≤ 1000) (hok : GOk c G k) (id : Int) (p : Nat)
    (hch : chooseL G.gone c.procs.toNat (belowV G.x c.procs).toNat c.procs.toNat 0 = some p) (y : Int) (o : OpR) (hask : askL (nxt (nxt G.x)) id p (belowV (nxt G.x) c.objects) = (y, o)) (n : Nat) (hn : belowV (nxt G.x) c.objects = (n : Int)) (q : OpR) (b : Bool) (hq : turnV G o n = (q, b)) :
    Calls Try.prog 28 #[.pointer (some ⟨R.g, 0, none⟩), .int .i64 id] w (GStepPost base w c R.g (stepG c G id)) := by
  obtain ⟨h1, h16, h2, h26, -⟩ := hcg
  have hpp := (chooseL_lt (by omega) _ _ _ hch).1
  have b2 := belowV_hi (x := nxt G.x) (n := c.objects) h2
  have hnn : n < c.objects.toNat := by omega
  obtain ⟨ha1, ha2, ha3, ha4, ha5⟩ := ask_ok (procs := c.procs) (nxt (nxt G.x)) id p (belowV (nxt G.x) c.objects) ⟨by omega, by omega⟩
  have hUy := askL_u (nxt (nxt G.x)) id p (belowV (nxt G.x) c.objects)
  rw [hask] at ha1 ha2 ha3 ha4 ha5 hUy
  rw [hn] at ha2 ha3
  have hp := hid (held_lt hok hnn)
  have HK := hid (And.intro ha1 (And.intro ha2 (And.intro ha3 ha4)))
  clear ha1 ha2 ha3 ha4 ha5
  obtain ⟨RES, hRES⟩ : ∃ X, X = stepG c G id := ⟨_, rfl⟩
  rw [← hRES]
  have hr0 : RES = stepA c G y (if b = true then some q else none) := by rw [hRES, stepG_some hch hask]; dsimp only; rw [turnL_V HK.out.2.1 HK.out.2.2.1, hq]
  have HRES := hid hr0
  clear hRES hr0
  have HC := hid (choose_c h h1 h16)
  rw [hch] at HC
  unfold pickV at HC
  dsimp only at HC
  go_enter Try.func28, Try.ntmps28
  go_wp2_with fail
  refine (HC.out).mono ?_
  rintro e w1 ⟨rfl, b1, s1⟩
  have h' := h.next b1 s1 (nxt_u _)
  have hb := b1.below h.lo.2.1
  have HH := hid h'
  have HB := hid hb
  clear h' hb s1 b1 HC
  go_upto_region 2 with fail
  go_cut [5, 6] from 7 (fun s5 s6 wr => s5 = .bool b ∧ ∃ bk, s6 = .pointer (some ⟨bk, 0, none⟩) ∧ OpBox wr bk q ∧ w1.heap.size ≤ bk ∧ Ahead R.gs w1 wr ∧ Src wr R.gs y)
  case first =>
    obtain ⟨-, -, c2, -, -, -, c6, -, -, -, -, -⟩ := HH.out.wc
    have HS : Hid (SrcAt w1 R.g R.gs (nxt G.x)) := hid ⟨c6, HH.out.src, HH.out.apart.1⟩
    have HBel := hid (fun w' (s : Src w' R.gs (nxt G.x)) => Below_m (nxt G.x) c.objects R.gs w' (nxt_u _) (by omega) s)
    rw [belV_pos h2, belX_pos h2, hn] at HBel
    have HAsk := hid (fun w' (s : SrcAt w' R.g R.gs (nxt (nxt G.x))) => ask_c w' R.g R.gs _ s (nxt_u _) id p n (by omega) (by omega) y o (by rw [← hn]; exact hask))
    have HTurn := hid (fun w' (g : GAt base w' c R { G with x := y }) => turn_c (G := { G with x := y }) g o n HK.out.2.1 hnn h26 hp.out q b hq)
    have HUy := hid hUy
    have n1 := HH.out.apart.1
    have lgs := heap_lt HH.out.src
    clear HB hUy hp HK hq hask hch hn HRES
    have k1 : R.g < w1.heap.size := heap_lt HH.out.cells
    go_region_held3 (fun w' => w'.cell? ⟨R.g, 6, none⟩ = some (.pointer (some ⟨R.gs, 0, none⟩)) ∧ w'.cell? ⟨R.g, 2, none⟩ = some (.int .i64 c.objects))
      (first | (with_reducible exact ⟨c6, c2⟩) | (with_reducible exact keepDr ⟨c6, c2⟩) | (with_reducible exact keepDr (keepA ⟨c6, c2⟩ _)) | (with_reducible exact ⟨c62, c22⟩) | (with_reducible exact ⟨c63, c23⟩) | (with_reducible exact ⟨c64, c24⟩) | (with_reducible exact keepA (by assumption) _) | (with_reducible exact keepA (And.intro c64 c24) _) | (with_reducible exact keepB (by assumption) q (by omega)))
      ((first
        | (go_at_call 14
           refine (HBel.out _ (by first | with_reducible exact (HS.out.grow (Grow.drew _)).src | with_reducible exact (HS.out.grow (Grow.trans (Grow.alloc _ _) (Grow.drew _))).src)).mono ?_
           rintro e w2 ⟨rfl, b2, s2⟩
           have A2 : Ahead R.gs w1 w2 := by first | with_reducible exact (Ahead.of_grow (Grow.drew _)).trans (.of_only b2) | with_reducible exact (Ahead.of_grow (Grow.trans (Grow.alloc _ _) (Grow.drew _))).trans (.of_only b2)
           have HA2 := hid A2
           have z2 := A2.size
           have HS2 := hid (HS.out.ahead A2 s2)
           have c62 := A2.cell n1 c6
           have c22 := A2.cell n1 c2
           (try (have HZ2 : Hid (OpBox w2 w1.heap.size opZ) := hid (by with_reducible exact ((zero_box w1).grow (Grow.drew _)).only b2 (by omega))))
           clear A2 b2 s2)
        | (go_at_call 40
           refine (HAsk.out _ (by first | with_reducible exact HS2.out | with_reducible exact HS2.out.grow (Grow.alloc _ _))).mono ?_
           rintro e w3 ⟨rfl, b3, s3⟩
           have A3 : Ahead R.gs w1 w3 := by first | with_reducible exact HA2.out.trans b3 | with_reducible exact (HA2.out.grow (Grow.alloc _ _)).trans b3
           have HA3 := hid A3
           have z3 := A3.size
           have HG3 : Hid (GAt base w3 c R { G with x := y }) := hid (HH.out.ahead A3 s3 HUy.out)
           have c63 := A3.cell n1 c6
           have c23 := A3.cell n1 c2
           (first
             | (have HZ3 : Hid (OpBox w3 w1.heap.size opZ) := hid (by with_reducible exact HZ2.out.ahead b3 (by omega)))
             | (have HZ3 : Hid (OpBox w3 w2.heap.size opZ) := hid (by with_reducible exact (zero_box w2).ahead b3 (by have := HA2.out.size; omega)))
             | skip)
           clear A3 b3 s3)
        | (go_at_call 39
           refine (HTurn.out _ (by first | with_reducible exact HG3.out | with_reducible exact HG3.out.grow (Grow.alloc _ _))).mono ?_
           rintro e w4 ⟨rfl, b4⟩
           have A4 : Ahead R.gs w1 w4 := by first | with_reducible exact HA3.out.grow b4 | with_reducible exact (HA3.out.grow (Grow.alloc _ _)).grow b4
           have z4 := A4.size
           have c64 := A4.cell n1 c6
           have c24 := A4.cell n1 c2
           have HG4 : Hid (GAt base w4 c R { G with x := y }) := by first | with_reducible exact hid (HG3.out.grow b4) | with_reducible exact hid (HG3.out.grow (Grow.trans (Grow.alloc _ _) b4))
           (first
             | (have HZ4 := hid (HZ3.out.grow b4)
                have HA4 := hid A4)
             | (have HZ4 : Hid (OpBox w4 w3.heap.size opZ) := hid (by with_reducible exact (zero_box w3).grow b4)
                have HA4 := hid A4)
             | (have HA4 := hid A4))
           (try
             (have q0 := HZ4.out.at
              unfold OpAt opZ at q0
              dsimp only at q0
              simp only [Nat.zero_add] at q0
              obtain ⟨a0, a1, a2, a3, a4, a5, a6, a7, a8, a9, a10⟩ := q0
              obtain ⟨f0, f1, f2, f3, f4, f5, f6, f7, f8, f9, f10⟩ := HZ4.out.open))
           clear A4 b4)))
    all_goals (go_wp2_with fail; go_meet)
    case rel =>
      refine ⟨rfl, w4.heap.size, rfl, heap_new _ _, z4, HA4.out.grow (Grow.alloc _ _), (Grow.alloc _ _).heap HG4.out.src⟩
    case rel =>
      refine ⟨rfl, w3.heap.size, rfl, HZ4.out.store q, z3, HA4.out.store w3.heap.size z3 q, (SrcAt.store ⟨c64, HG4.out.src, n1⟩ w3.heap.size (by omega) (by omega) q).src⟩
    case rel =>
      refine ⟨rfl, w2.heap.size, rfl, HZ4.out.store q, z2, HA4.out.store w2.heap.size z2 q, (SrcAt.store ⟨c64, HG4.out.src, n1⟩ w2.heap.size (by omega) (by omega) q).src⟩
    case rel =>
      refine ⟨rfl, w1.heap.size, rfl, HZ4.out.store q, Nat.le_refl _, HA4.out.store w1.heap.size (Nat.le_refl _) q, (SrcAt.store ⟨c64, HG4.out.src, n1⟩ w1.heap.size (by omega) (by omega) q).src⟩
  case rest =>
    obtain ⟨e5, bk, e6, ob, lbk, A, sY⟩ := hcut
    subst e5 e6
    have hG1 : GAt base wc c R { G with x := y } := HH.out.ahead A sY hUy
    have hb1 : Below base w wc := HB.out.trans (A.below HH.out.lo.2.1 HH.out.lo.1 (heap_lt HH.out.cells))
    have hlst : base ≤ R.gst ∧ R.gst < w1.heap.size := HH.out.st.lt R.gst rfl
    cases b
    · have HG1 := hid hG1
      have HB1 := hid hb1
      clear hG1 hb1 ob A sY hq HK hp hUy hn hch hask hlst
      go_wp2_with fail
      first | go_end0 | ((try simp only [Exit.inBlock, Exit.then]); refine bodyPost_ret (results_none rfl _ _ _) rfl ?_)
      exact .intro R rfl rfl (by rw [HRES.out]; exact HG1.out) HB1.out
    · have ht : turnL G o = some q := by rw [turnL_V HK.out.2.1 HK.out.2.2.1, hq]; rfl
      obtain ⟨qa, qobj, qkind, qid⟩ := turn_ok hok o q n HK.out.1 HK.out.2.1 hnn HK.out.2.2.1 ht
      have hok1 := hok.x y
      have hr1 : RES = placeG c { G with x := y } q := HRES.out
      have hk1 : R.g < w1.heap.size := heap_lt HH.out.cells
      have hk2 : R.gs < w1.heap.size := heap_lt HH.out.src
      have hk3 : R.gf < w1.heap.size := heap_lt HH.out.free
      have hk4 : R.gg < w1.heap.size := heap_lt HH.out.gone
      have hlv : R.lv.ownBlock ≠ some bk := fun e => by have := (HH.out.own.lt bk e).2; omega
      have hrd : ∀ i, i < c.objects.toNat → ∀ a n m, R.svs.getD i (.slice none 0 0) = .slice (some a) n m → 0 < n → a.block ≠ bk := fun i hi a n m e e0 => by have := (HH.out.rowd i hi a n m e e0).1; omega
      have m1 : bk ≠ R.g := by omega
      have m2 : bk ≠ R.gs := by omega
      have m3 : bk ≠ R.gf := by omega
      have m4 : bk ≠ R.gg := by omega
      have m5 : bk ≠ R.gst := by omega
      have hbb : base ≤ bk := by have := HH.out.lo.1; omega
      have hlo1 := HH.out.lo
      have hlo5 := hlst.1
      have hap := HH.out.apart
      clear HH HB A hq HK hp hUy hn hch hask hlst ht HRES sY h hk1 hk2 hk3 hk4 lbk b2 hpp
      generalize ({ G with x := y } : GenW) = G1 at *
      clear G w1 hok
      obtain ⟨qi, qp, qo, qk, qm, qar, qse, qd, qre, qin, qrt⟩ := q
      dsimp only at qobj qkind
      have hpr := qa.proc
      dsimp only at hpr
      obtain ⟨pp, rfl⟩ : ∃ pp : Nat, qp = (pp : Int) := ⟨qp.toNat, by omega⟩
      have hpP : pp < c.procs.toNat := by omega
      subst qobj
      have HK := hid qkind
      clear qkind qid hpr
      have HOB := hid ob
      have HG1 := hid hG1
      have HB1 := hid hb1
      have hpt := point_ok hok1 ⟨qi, (pp : Int), (n : Int), qk, qm, qar, qse, qd, qre, qin, qrt⟩
      unfold pointV at hpt
      dsimp only at hpt
      rw [Int.toNat_natCast] at hpt
      have hF := hok1.free pp
      have cf := hG1.freeAt pp hpP
      obtain ⟨-, -, -, -, -, -, c6, c7, -, -, c10, -⟩ := hG1.wc
      have HB4 := hid (fun w' (s : Src w' R.gs G1.x) => Below_m G1.x 4 R.gs w' hG1.ux (by omega) s)
      rw [belV_pos (by omega), belX_pos (by omega)] at HB4
      have v40 := belowV_lo (x := G1.x) (n := 4) (by decide)
      have v44 := belowV_hi (x := G1.x) (n := 4) (by decide)
      generalize hFv : G1.free.getD pp 0 = F at hF cf hpt
      have HF := hid hFv
      generalize hNow : G1.now = NW at c10 hpt
      have HNW := hid hNow
      generalize hPv : c.procs.toNat = P at hpP c7
      have HP := hid hPv
      generalize hOv : c.objects.toNat = NO at hnn
      have HO := hid hOv
      clear hFv hNow hPv hOv
      generalize hM : imax NW F = M at hpt
      have HM := hid hM
      generalize hV : belowV G1.x 4 = V at *
      have HV4 := hid hV
      clear hV
      obtain ⟨PT, hPT⟩ : ∃ z, z = M + 1 + V := ⟨_, rfl⟩
      have hw1 : IntKind.i64.wrap (M + 1) = M + 1 := by rw [IntKind.wrap_i64]; omega
      have hw2 : IntKind.i64.wrap (M + 1 + V) = PT := by rw [IntKind.wrap_i64]; omega
      have HPT := hid hPT
      have hpt0 : 1 ≤ PT := by omega
      have hpt1 : PT ≤ 20 * (k : Int) + 4 := by omega
      obtain ⟨f0, f1, f2, f3, f4, f5, f6, f7, f8, f9, f10⟩ := ob.open
      have q0 := ob.at
      unfold OpAt at q0
      dsimp only at q0
      simp only [Nat.zero_add] at q0
      obtain ⟨a0, a1, a2, a3, a4, a5, a6, a7, a8, a9, a10⟩ := q0
      have hp0 : (0 : Int) ≤ (pp : Int) := by omega
      have hp1 : (pp : Int) < (P : Int) := by omega
      clear hpt hPT ob hG1 hb1 f0 f1 f2 f3 f4 f5 f6 f7 f8 f9 f10 a0 a2 a3 a4 a5 a6 a7 a8 a9 a10
      have n1 := hap.1
      go_upto_region 4 with fail
      go_cut [7] from 8 (fun s7 wr => s7 = .int .i64 PT ∧ GAt base wr c R { G1 with x := nxt G1.x } ∧ OpBox wr bk ⟨qi, (pp : Int), (n : Int), qk, qm, qar, qse, qd, qre, qin, qrt⟩ ∧ Below base w wr)
      case first =>
        go_region_held3 (fun w' => w'.cell? ⟨R.g, 10, none⟩ = some (.int .i64 NW) ∧ w'.cell? ⟨R.g, 7, none⟩ = some (.slice (some ⟨R.gf, 0, none⟩) P P) ∧ w'.cell? ⟨R.gf, pp, none⟩ = some (.int .i64 F) ∧ w'.cell? ⟨bk, 1, none⟩ = some (.int .i64 (pp : Int)) ∧ w'.cell? ⟨R.g, 6, none⟩ = some (.pointer (some ⟨R.gs, 0, none⟩)))
          (first | (with_reducible exact ⟨cell_drew c10, cell_drew c7, cell_drew cf, cell_drew a1, cell_drew c6⟩) | (with_reducible exact ⟨c10', c7', cf', a1', c6'⟩) | (with_reducible assumption))
          ((go_at_call 14
            refine (HB4.out wc.drew HG1.out.src).mono ?_
            rintro e w5 ⟨rfl, b5, s5⟩
            have O5 : Only R.gs wc w5 := (Only.refl R.gs wc).drew.trans b5
            have HG5 := hid (HG1.out.next O5 s5 (nxt_u _))
            have HOB5 := hid (HOB.out.only O5 m2)
            have HB5 := hid (HB1.out.trans (O5.below hlo1.2.1))
            have c6' := O5.cell n1 c6
            have c7' := O5.cell n1 c7
            have c10' := O5.cell n1 c10
            have cf' := O5.cell (fun e => hap.2.2.2.2.1 e.symm) cf
            have a1' := O5.cell m2 a1
            clear O5 b5 s5))
        all_goals (go_wp2_with fail; go_meet)
        all_goals exact ⟨rfl, HG5.out, HOB5.out, HB5.out⟩
      clear HOB HG1 HB1 HB4 c6 c7 c10 cf a1 hM hw1 hw2 v40 v44
      obtain ⟨e7, g5, ob5, hb5⟩ := hcut
      subst e7
      -- region 5: the time
      have fr := heap_frozen g5.cells 10 (by omega)
      have c10 := g5.wc.2.2.2.2.2.2.2.2.2.2.1
      have g6 := g5.time PT
      have ob6 := ob5.only (only_set wc R.g 10 (.int .i64 PT)) m1
      have hb6 : Below base w (wc.setCell ⟨R.g, 10, none⟩ (.int .i64 PT)) := hb5.setCell (by exact hlo1.1) _
      clear g5 ob5 hb5
      go_upto_region 6 with fail
      generalize wc.setCell ⟨R.g, 10, none⟩ (.int .i64 PT) = W6 at *
      clear fr c10
      have HG6 := hid g6
      have HOB6 := hid ob6
      have HB6 := hid hb6
      have cf := g6.freeAt pp (by rw [HP.out]; exact hpP)
      have c7 := g6.wc.2.2.2.2.2.2.2.1
      have c6 := g6.wc.2.2.2.2.2.2.1
      dsimp only at cf
      rw [HF.out] at cf
      rw [HP.out] at c7
      have HB8 := hid (fun w' (s : Src w' R.gs (nxt G1.x)) => Below_m (nxt G1.x) 8 R.gs w' (nxt_u _) (by omega) s)
      rw [belV_pos (by omega), belX_pos (by omega)] at HB8
      have v80 := belowV_lo (x := nxt G1.x) (n := 8) (by decide)
      have v88 := belowV_hi (x := nxt G1.x) (n := 8) (by decide)
      generalize hV : belowV (nxt G1.x) 8 = V8 at *
      have HV8 := hid hV
      clear hV
      have hpt := HPT.out
      have hv0 := belowV_lo (x := G1.x) (n := 4) (by decide)
      have hv4 := belowV_hi (x := G1.x) (n := 4) (by decide)
      rw [HV4.out] at hv0 hv4
      have hno := hok1.now
      rw [HNW.out] at hno
      have hm1 := HM.out
      have hm2 : M ≤ 20 * (k : Int) := by rw [← hm1]; exact imax_le hno.2 hF.2
      have hm0 : 0 ≤ M := by rw [← hm1]; exact le_imax hno.1
      obtain ⟨IV, hIV⟩ : ∃ z, z = imax (F + 1) (PT - V8) := ⟨_, rfl⟩
      have hw1 : IntKind.i64.wrap (F + 1) = F + 1 := by rw [IntKind.wrap_i64]; omega
      have hw2 : IntKind.i64.wrap (PT - V8) = PT - V8 := by rw [IntKind.wrap_i64]; omega
      have HIV := hid hIV
      obtain ⟨f0, f1, f2, f3, f4, f5, f6, f7, f8, f9, f10⟩ := ob6.open
      have q0 := ob6.at
      unfold OpAt at q0
      dsimp only at q0
      simp only [Nat.zero_add] at q0
      obtain ⟨a0, a1, a2, a3, a4, a5, a6, a7, a8, a9, a10⟩ := q0
      clear hpt hm1 hIV hno f0 f1 f2 f3 f4 f5 f6 f7 f8 f10 a0 a2 a3 a4 a5 a6 a7 a8 a10 g6 ob6 hb6
      go_cut [7] from 8 (fun s7 wr => s7 = .int .i64 PT ∧ GAt base wr c R { G1 with x := nxt (nxt G1.x), now := PT } ∧ OpBox wr bk ⟨qi, (pp : Int), (n : Int), qk, qm, qar, qse, qd, qre, IV, qrt⟩ ∧ Below base w wr)
      case first =>
        go_region_held3 (fun w' => w'.cell? ⟨R.g, 7, none⟩ = some (.slice (some ⟨R.gf, 0, none⟩) P P) ∧ w'.cell? ⟨R.gf, pp, none⟩ = some (.int .i64 F) ∧ w'.cell? ⟨bk, 1, none⟩ = some (.int .i64 (pp : Int)) ∧ w'.cell? ⟨R.g, 6, none⟩ = some (.pointer (some ⟨R.gs, 0, none⟩)))
          (first | (with_reducible exact ⟨cell_drew c7, cell_drew cf, cell_drew a1, cell_drew c6⟩) | (with_reducible exact ⟨c7', cf', a1', c6'⟩) | (with_reducible exact ⟨cell_far c7' (Ne.symm m1), cell_far cf' (Ne.symm m3), cell_off a1' (by decide), cell_far c6' (Ne.symm m1)⟩))
          ((go_at_call 14
            refine (HB8.out W6.drew HG6.out.src).mono ?_
            rintro e w7 ⟨rfl, b7, s7⟩
            have O7 : Only R.gs W6 w7 := (Only.refl R.gs W6).drew.trans b7
            have HG7 := hid (HG6.out.next O7 s7 (nxt_u _))
            have HOB7 := hid (HOB6.out.only O7 m2)
            have HB7 := hid (HB6.out.trans (O7.below hlo1.2.1))
            have c6' := O7.cell n1 c6
            have c7' := O7.cell n1 c7
            have cf' := O7.cell (fun e => hap.2.2.2.2.1 e.symm) cf
            have a1' := O7.cell m2 a1
            have a9' := O7.cell m2 a9
            have f9' := heap_frozen HOB7.out 9 (by omega)
            clear O7 b7 s7))
        all_goals (go_wp2_with fail; go_meet)
        all_goals exact ⟨rfl, HG7.out.other bk 9 _ m1 m2 m3 m4 m5 hlv hrd, heap_setV HOB7.out 9 _ _ (by rw [HIV.out]; rfl), HB7.out.setCell (by exact hbb) _⟩
      clear HG6 HOB6 HB6 HB8 cf c7 c6 a1 a9 f9 hw1 hw2 v80 v88 hv0 hv4 hm0 hm2
      obtain ⟨e7, g7, ob7, hb7⟩ := hcut
      subst e7
      go_step
      exact part2_c rfl hk hok1 m1 m2 m3 m4 m5 hlv hbb hlo1 hap n1 hpP HP hp0 hp1 hpt0 hpt1 hnn HO hlo5 hrd qa hr1 HK HF HNW HM HV4 HPT HV8 HIV g7 ob7 hb7
end Go.Proofs.Ytlhgdbangnohjaa
