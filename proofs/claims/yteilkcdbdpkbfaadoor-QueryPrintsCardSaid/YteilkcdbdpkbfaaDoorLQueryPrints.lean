/- The law of what is printed: for every query that came in; the tied card. The package variables are what the card ties to the program's text. -/
import Derived.Test.YteilkcdbdpkbfaaDoorQAwake
import Derived.Test.YteilkcdbdpkbfaaDoorQSize
import Derived.Test.YteilkcdbdpkbfaaDoorQGroup
import Derived.Test.YteilkcdbdpkbfaaDoorQOpen
import Derived.Test.YteilkcdbdpkbfaaDoorQLaid
import Derived.Test.YteilkcdbdpkbfaaDoorQRParse
import Derived.Test.YteilkcdbdpkbfaaDoorRely
import Derived.Test.YteilkcdbdpkbfaaDoorCards
import Derived.Test.YteilkcdbdpkbfaaDoorTie
import Derived.SevenTiedAt
namespace Go.Proofs.YteilkcdbdpkbfaaDoor
open Go.RowKit
set_option linter.unusedVariables false
set_option linter.unusedSimpArgs false
mutual
theorem sizeP_pos (d : Nat) : ∀ n : NodeR, 0 ≤ sizeP d n
  | .mk _ ks f s _ => by
    unfold sizeP
    split
    · omega
    · have := sizeK_pos (d + 1) ks (1 + (ks.length : Int) + (f.size : Int) + (s.size : Int)) (by omega)
      omega
theorem sizeK_pos (d : Nat) : ∀ (l : List NodeR) (k : Int), 0 ≤ k → k ≤ sizeK d l k
  | [], k, h => by unfold sizeK; omega
  | n :: l, k, h => by
    have h1 := sizeP_pos d n
    have h2 := sizeK_pos d l (k + sizeP d n) (by omega)
    unfold sizeK
    split <;> omega
end
mutual
theorem size_wgt (d : Nat) : ∀ n : NodeR, sizeP d n ≤ 3000 → (n.wgt : Int) ≤ sizeP d n
  | .mk _ ks f s _, h => by
    unfold sizeP at h ⊢
    unfold NodeR.wgt
    split at h
    · omega
    · rename_i hd
      rw [if_neg hd]
      have := sizeK_wgt (d + 1) ks (1 + (ks.length : Int) + (f.size : Int) + (s.size : Int)) (by omega) h
      omega
theorem sizeK_wgt (d : Nat) : ∀ (l : List NodeR) (k : Int), 0 ≤ k → sizeK d l k ≤ 3000 → k + (wgtL l : Int) ≤ sizeK d l k
  | [], k, h0, h => by unfold sizeK wgtL; omega
  | n :: l, k, h0, h => by
    unfold sizeK at h ⊢
    unfold wgtL
    split at h
    · rename_i hk
      rw [if_pos hk]
      have h1 := sizeP_pos d n
      have h2 := sizeK_pos d l (k + sizeP d n) (by omega)
      have h3 := sizeK_wgt d l (k + sizeP d n) (by omega) h
      have h4 := size_wgt d n (by omega)
      omega
    · omega
end
def QueryR.Fit0 (q : QueryR) : Prop := q.whr.Fit ∧ q.order.size ≤ 140737488351232 ∧ I64 q.limit
section
open Go.RowKit Go.Joins Go.ChangeShapes Go.WideShapes Go.Deep Go.WideElems Go.Maps
variable {H : Type} {enc : TypeId × Value → H} {w : World} {base : Nat} {spare : Nat → Bool} {held : Bool}
set_option maxRecDepth 100000 in
theorem open_query {r : Reach} {b0 : Nat} {v : Value} {d : DataW H} {p : List MemPlace} (hv : Value.okWide Tryd.prog w r b0 26 v) (h : DataW.Trod enc Tryd.prog w base spare held 26 v d p)
    (hw : ∀ n ∈ d.weights Tryd.prog 26, n ≤ reachBytes) : ∃ q : QueryR, q.In (fun _ => True) w v ∧ q.Fit0 := by
  obtain ⟨cs, rfl, hsz⟩ := okWide_struct Tryd.underlying26 hv
  obtain ⟨fuel, hf⟩ := h
  obtain ⟨xs, n, hfu, hx, hl, hlen, hr⟩ := DataW.trod_struct Tryd.underlying26 hf
  have hC : Tryd.prog.cellsOf 26 = 9 := by kernel_rfl
  have hN : Tryd.prog.cellsOf 24 = 5 := by kernel_rfl
  have hS : Tryd.prog.cellsOf 9 = 1 := by kernel_rfl
  have hB : Tryd.prog.cellsOf 4 = 1 := by kernel_rfl
  have hI : Tryd.prog.cellsOf 3 = 1 := by kernel_rfl
  obtain ⟨l⟩ := cs
  simp only [Value.cells] at hl hr
  rw [hC] at hl
  match l, hl with
  | [c0, c1, c2, c3, c4, c5, c6, c7, c8], _ =>
  match xs, hlen with
  | [x0, x1, x2, x3, x4], _ =>
  have h0 : DataW.trod enc Tryd.prog w base spare held n 24 (([c0, c1, c2, c3, c4, c5, c6, c7, c8].drop 0).take (Tryd.prog.cellsOf 24)) = some x0 := hr 0 _ rfl
  rw [hN] at h0
  have h1 : DataW.trod enc Tryd.prog w base spare held n 9 (([c0, c1, c2, c3, c4, c5, c6, c7, c8].drop 5).take (Tryd.prog.cellsOf 9)) = some x1 := hr 1 _ rfl
  rw [hS] at h1
  have h2 : DataW.trod enc Tryd.prog w base spare held n 4 (([c0, c1, c2, c3, c4, c5, c6, c7, c8].drop 6).take (Tryd.prog.cellsOf 4)) = some x2 := hr 2 _ rfl
  rw [hB] at h2
  have h3 : DataW.trod enc Tryd.prog w base spare held n 3 (([c0, c1, c2, c3, c4, c5, c6, c7, c8].drop 7).take (Tryd.prog.cellsOf 3)) = some x3 := hr 3 _ rfl
  rw [hI] at h3
  have h4 : DataW.trod enc Tryd.prog w base spare held n 4 (([c0, c1, c2, c3, c4, c5, c6, c7, c8].drop 8).take (Tryd.prog.cellsOf 4)) = some x4 := hr 4 _ rfl
  rw [hB] at h4
  clear hr
  simp only [List.drop_succ_cons, List.drop_zero, List.take_succ_cons, List.take_zero] at h0 h1 h2 h3 h4
  have hd : d = .agg [x0.1, x1.1, x2.1, x3.1, x4.1] := by
    have := congrArg Prod.fst hx
    simpa using this
  have hW : ∀ (j : Nat) (t : TypeId) (e : DataW H), (([24, 9, 4, 3, 4] : List TypeId))[j]? = some t → [x0.1, x1.1, x2.1, x3.1, x4.1][j]? = some e → ∀ n ∈ e.weights Tryd.prog t, n ≤ reachBytes := by
    intro j t e ht he m hm
    refine hw m ?_
    rw [hd]
    have hu : DataW.weights Tryd.prog 26 (.agg [x0.1, x1.1, x2.1, x3.1, x4.1]) = DataW.weightsEach Tryd.prog [24, 9, 4, 3, 4] [x0.1, x1.1, x2.1, x3.1, x4.1] := by
      rw [DataW.weights, Tryd.underlying26]
      rfl
    rw [hu]
    exact DataW.weights_mem_each ht he m hm
  obtain ⟨nd, d0, d1, d2, d3, d4, e0, hin, hfit⟩ := open_nodeF _ _ _ h0 (hW 0 _ _ rfl rfl)
  obtain ⟨rfl, rfl, rfl, rfl, rfl⟩ : c0 = d0 ∧ c1 = d1 ∧ c2 = d2 ∧ c3 = d3 ∧ c4 = d4 := by simpa using e0
  obtain ⟨a1, e1, y1, -⟩ := DataW.trod_string Tryd.underlying9 h1
  obtain ⟨a2, e2, -⟩ := DataW.trod_bool Tryd.underlying4 h2
  obtain ⟨a3, e3, -, w3⟩ := DataW.trod_int Tryd.underlying3 h3
  obtain ⟨a4, e4, -⟩ := DataW.trod_bool Tryd.underlying4 h4
  simp only [List.cons.injEq, and_true] at e1 e2 e3 e4
  subst e1 e2 e3 e4
  have s1 : a1.size ≤ 140737488351232 := by
    have := hW 1 _ _ rfl rfl a1.data.toList.length (by rw [y1]; simp [DataW.weights])
    simpa [reachBytes] using this
  exact ⟨⟨nd, a1, a2, a3, a4⟩, ⟨_, _, _, _, _, rfl, hin⟩, hfit, s1, wf_i64 w3⟩
end
set_option maxRecDepth 100000 in
set_option maxHeartbeats 8000000 in
theorem Prints_walk (q : QueryR) (u : Value) (w : World) (hq : q.Fit0) (iq : q.In (fun _ => True) w u) (ht1 : tabSpace w) (ht2 : tabPow w) :
    Calls Tryd.prog 3 #[u] w fun e w' => e = .returned (.bool true) ∧ Below w.heap.size w w' := by
  have HW := hid (fun w' (g : Grow w w') => awake_c w' (tab_grow ht1 g) (tab_grow ht2 g))
  obtain ⟨hfit, hos, hli⟩ := hq
  have HPR := hid (fun (hw : q.whr.wgt ≤ 1073741824) (S : Nat → Prop) (u : Value) (w' : World) (g : Grow w w') (hi : q.In S w' u) => Print_c q ⟨hfit, hw, hos, hli⟩ S u w' (tab_grow ht1 g) (tab_grow ht2 g) hi)
  have HPT := hid (show ∀ b, okP q (parseP (printB q).data.toList) = b → printP q = if b = true then (printB q, 0) else (⟨#[]⟩, 1) from fun b h => by unfold printP; rw [h])
  have HBS := hid (fun (hw : q.whr.wgt ≤ 1073741824) => printB_size (q := q) ⟨hfit, hw, hos, hli⟩)
  have HPA := hid (fun w' (hs : (printB q).size ≤ 140737488351232) => RParse_c (printB q) w' hs)
  have HWG := hid (fun h => size_wgt 0 q.whr h)
  obtain ⟨n, o, d, l, c⟩ := q
  obtain ⟨a0, a1, a2, a3, a4, rfl, hin⟩ := iq
  simp only at hin hfit hos hli
  obtain ⟨uk, up, un, uc, uf, us, ux, e⟩ := NodeR.In.value hin
  simp only [Value.agg.injEq, Array.mk.injEq, List.cons.injEq, and_true] at e
  obtain ⟨rfl, rfl, rfl, rfl, rfl⟩ := e
  have ZA := hid (fun w' (g : Grow w w') => Size_c n.wt n 0 _ _ w' (Nat.le_refl _) (by omega) hfit (NodeR.In.grow g hin))
  have IN := hid (fun w' (g : Grow w w') => NodeR.In.grow g hin)
  have GA := hid (Grow.alloc w (.cells #[.int .i64 uk, .slice up un uc, .string uf, .string us, .int .i64 ux, .string o, .bool d, .int .i64 l, .bool c] 26))
  have hA := hid (heap_new w (.cells #[.int .i64 uk, .slice up un uc, .string uf, .string us, .int .i64 ux, .string o, .bool d, .int .i64 l, .bool c] 26))
  have hl1 : -9223372036854775808 ≤ l := hli.1
  have hl2 : l ≤ 9223372036854775807 := hli.2
  clear ht1 ht2 hin hfit hos hli
  generalize hsa : sizeP 0 n = sa at *
  replace hsa := hid hsa
  go_enter Tryd.func3, Tryd.ntmps3
  go_wp2_with fail
  refine (ZA.out _ GA.out).mono ?_
  rintro e w1 ⟨rfl, g1⟩
  have hC1 := hid (g1.heap hA.out)
  have G1 := hid (GA.out.trans g1)
  clear g1 hA GA ZA
  have hws : w.heap.size ≤ w.heap.size := Nat.le_refl _
  by_cases hs1 : 600 < sa
  · have hd1 : decide (600 < sa) = true := by simpa using hs1
    go_wp2_with fail
    refine (HW.out _ G1.out).mono ?_
    rintro e w2 ⟨rfl, g2⟩
    go_wp2_with fail
    go_ret
    exact ⟨rfl, G1.out.trans g2⟩
  have hd1 : decide (600 < sa) = false := by simpa using hs1
  have hwg : n.wgt ≤ 1073741824 := by
    have h := HWG.out (by omega)
    omega
  have PR := hid (HPR.out hwg _ _ w1 G1.out ⟨_, _, _, _, _, rfl, IN.out w1 G1.out⟩)
  have hbs := HBS.out hwg
  clear HPR HBS HWG
  have q0 : w1.cell? ⟨w.heap.size, 0, none⟩ = some (.int .i64 uk) := by rw [heap_cell hC1.out]; rfl
  have q1 : w1.cell? ⟨w.heap.size, 1, none⟩ = some (.slice up un uc) := by rw [heap_cell hC1.out]; rfl
  have q2 : w1.cell? ⟨w.heap.size, 2, none⟩ = some (.string uf) := by rw [heap_cell hC1.out]; rfl
  have q3 : w1.cell? ⟨w.heap.size, 3, none⟩ = some (.string us) := by rw [heap_cell hC1.out]; rfl
  have q4 : w1.cell? ⟨w.heap.size, 4, none⟩ = some (.int .i64 ux) := by rw [heap_cell hC1.out]; rfl
  have q5 : w1.cell? ⟨w.heap.size, 5, none⟩ = some (.string o) := by rw [heap_cell hC1.out]; rfl
  have q6 : w1.cell? ⟨w.heap.size, 6, none⟩ = some (.bool d) := by rw [heap_cell hC1.out]; rfl
  have q7 : w1.cell? ⟨w.heap.size, 7, none⟩ = some (.int .i64 l) := by rw [heap_cell hC1.out]; rfl
  have q8 : w1.cell? ⟨w.heap.size, 8, none⟩ = some (.bool c) := by rw [heap_cell hC1.out]; rfl
  have hz1 := heap_lt hC1.out
  go_wp2_with fail
  refine PR.out.mono ?_
  rintro e w2 ⟨rfl, g2⟩
  have hC2 := hid (g2.heap hC1.out)
  have G2 := hid (G1.out.trans g2)
  clear g2 q0 q1 q2 q3 q4 q5 q6 q7 q8 PR hz1 hC1 G1
  generalize hPB : printB ⟨n, o, d, l, c⟩ = TB at *
  replace hPB := hid hPB
  cases hok : okP ⟨n, o, d, l, c⟩ (parseP TB.data.toList) with
  | false =>
    rw [HPT.out false hok, if_neg (by simp)]
    replace hok := hid hok
    go_wp2_with fail
    refine (HW.out _ G2.out).mono ?_
    rintro e w3 ⟨rfl, g3⟩
    go_wp2_with fail
    go_ret
    exact ⟨rfl, G2.out.trans g3⟩
  | true =>
    rw [HPT.out true hok, if_pos rfl]
    have h4096 : TB.size ≤ 4096 := by
      have h0 : (parseP TB.data.toList).e = 0 := by
        have h := hok
        simp only [okP, Bool.and_eq_true, decide_eq_true_eq] at h
        exact h.1.1.1.1.1
      have := (parseP_ok h0).1
      simpa using this
    have RP := HPA.out w2 (by omega)
    have FP := parseP_fit TB.data.toList
    have hat : (parseP TB.data.toList).e = 0 → (parseP TB.data.toList).at_ = TB.size := fun h => by
      obtain ⟨-, -, q, R, -, hp⟩ := parseP_ok h
      rw [hp]
      simp
    generalize parseP TB.data.toList = P at *
    obtain ⟨⟨pn, po, pd, pl, pc⟩, pa, pe⟩ := P
    simp only [okP, Bool.and_eq_true, decide_eq_true_eq] at hok
    obtain ⟨⟨⟨⟨⟨rfl, k1⟩, rfl⟩, rfl⟩, rfl⟩, rfl⟩ := hok
    obtain rfl := (sameN_iff _ _).1 k1
    obtain rfl : pa = TB.size := hat rfl
    have hFP := hid FP.1
    have hbsi : (TB.size : Int) ≤ 140771848089900 := by omega
    clear k1 hat FP HPT HPA
    replace RP := hid RP
    go_wp2_with fail
    refine RP.out.mono ?_
    rintro e w3 ⟨v, rfl, ⟨c0, c1, c2, c3, c4, rfl, hin⟩, g3⟩
    simp only at hin ⊢
    obtain ⟨vk, vp, vn, vc, vf, vs, vx, e⟩ := NodeR.In.value hin
    simp only [Value.agg.injEq, Array.mk.injEq, List.cons.injEq, and_true] at e
    obtain ⟨rfl, rfl, rfl, rfl, rfl⟩ := e
    have hC4 := hid (heap_alloc_keep (g3.heap hC2.out) (.cells #[.int .i64 vk, .slice vp vn vc, .string vf, .string vs, .int .i64 vx, .string po, .bool pd, .int .i64 (maxI l), .bool pc] 26))
    have hP4 := hid (heap_new w3 (.cells #[.int .i64 vk, .slice vp vn vc, .string vf, .string vs, .int .i64 vx, .string po, .bool pd, .int .i64 (maxI l), .bool pc] 26))
    have G4 := hid ((G2.out.trans g3).trans (Grow.alloc w3 (.cells #[.int .i64 vk, .slice vp vn vc, .string vf, .string vs, .int .i64 vx, .string po, .bool pd, .int .i64 (maxI l), .bool pc] 26)))
    have N4 := hid (NodeR.In.grow (Grow.alloc w3 (.cells #[.int .i64 vk, .slice vp vn vc, .string vf, .string vs, .int .i64 vx, .string po, .bool pd, .int .i64 (maxI l), .bool pc] 26)) hin)
    have hzH := heap_lt hC2.out
    have hzK : w2.heap.size ≤ w3.heap.size := g3.size
    clear hin g3 RP
    go_upto_region 7 with fail
    generalize w3.alloc (.cells #[.int .i64 vk, .slice vp vn vc, .string vf, .string vs, .int .i64 vx, .string po, .bool pd, .int .i64 (maxI l), .bool pc] 26) = w4 at *
    generalize w3.heap.size = K at *
    have nKH : K ≠ w.heap.size := by omega
    have nHK : w.heap.size ≠ K := Ne.symm nKH
    by_cases hl : l < 0
    · have hml : maxI l = -1 := by unfold maxI; split <;> omega
      have f7 : w4.cell? ⟨w.heap.size, 7, none⟩ = some (.int .i64 l) := by rw [heap_cell hC4.out]; rfl
      have z7 : w4.frozen? ⟨w.heap.size, 7, none⟩ = false := heap_frozen hC4.out 7 (by simp)
      have hzq := heap_lt hC4.out
      have hC5 := hid (heap_set hC4.out 7 (.int .i64 (-1)))
      have hP5 := hid (heap_keep hP4.out ⟨w.heap.size, 7, none⟩ (.int .i64 (-1)) nKH)
      have G5 := hid (Grow.set G4.out w.heap.size 7 (Nat.le_refl _) (.int .i64 (-1)))
      have N5 := hid (NodeR.In.grown (row := some w.heap.size) (fun b _ hb => by have h : w2.heap.size ≤ b := hb; simp; omega) (Lib.grownBy_setB (World.grownBy.refl w4 _) 7 (.int .i64 (-1))) N4.out)
      replace hml := hid hml
      go_upto_region 9 with fail
      replace hml := hml.out
      generalize w4.setCell ⟨w.heap.size, 7, none⟩ (.int .i64 (-1)) = w5 at *
      clear f7 z7 hzq
      have QS := Queries_c ⟨pn, po, pd, maxI l, pc⟩ ⟨pn, po, pd, (-1), pc⟩ _ _ _ _ w5 hFP.out ⟨_, _, _, _, _, rfl, N5.out⟩ ⟨_, _, _, _, _, rfl, IN.out w5 G5.out⟩
      rw [(sameQ_iff _ _).2 (by rw [hml])] at QS
      replace QS := hid QS
      replace hml := hid hml
      have q0 : w5.cell? ⟨w.heap.size, 0, none⟩ = some (.int .i64 uk) := by rw [heap_cell hC5.out]; rfl
      have q1 : w5.cell? ⟨w.heap.size, 1, none⟩ = some (.slice up un uc) := by rw [heap_cell hC5.out]; rfl
      have q2 : w5.cell? ⟨w.heap.size, 2, none⟩ = some (.string uf) := by rw [heap_cell hC5.out]; rfl
      have q3 : w5.cell? ⟨w.heap.size, 3, none⟩ = some (.string us) := by rw [heap_cell hC5.out]; rfl
      have q4 : w5.cell? ⟨w.heap.size, 4, none⟩ = some (.int .i64 ux) := by rw [heap_cell hC5.out]; rfl
      have q5 : w5.cell? ⟨w.heap.size, 5, none⟩ = some (.string po) := by rw [heap_cell hC5.out]; rfl
      have q6 : w5.cell? ⟨w.heap.size, 6, none⟩ = some (.bool pd) := by rw [heap_cell hC5.out]; rfl
      have q7 : w5.cell? ⟨w.heap.size, 7, none⟩ = some (.int .i64 (-1)) := by rw [heap_cell hC5.out]; rfl
      have q8 : w5.cell? ⟨w.heap.size, 8, none⟩ = some (.bool pc) := by rw [heap_cell hC5.out]; rfl
      have p0 : w5.cell? ⟨K, 0, none⟩ = some (.int .i64 vk) := by rw [heap_cell hP5.out]; rfl
      have p1 : w5.cell? ⟨K, 1, none⟩ = some (.slice vp vn vc) := by rw [heap_cell hP5.out]; rfl
      have p2 : w5.cell? ⟨K, 2, none⟩ = some (.string vf) := by rw [heap_cell hP5.out]; rfl
      have p3 : w5.cell? ⟨K, 3, none⟩ = some (.string vs) := by rw [heap_cell hP5.out]; rfl
      have p4 : w5.cell? ⟨K, 4, none⟩ = some (.int .i64 vx) := by rw [heap_cell hP5.out]; rfl
      have p5 : w5.cell? ⟨K, 5, none⟩ = some (.string po) := by rw [heap_cell hP5.out]; rfl
      have p6 : w5.cell? ⟨K, 6, none⟩ = some (.bool pd) := by rw [heap_cell hP5.out]; rfl
      have p7 : w5.cell? ⟨K, 7, none⟩ = some (.int .i64 (maxI l)) := by rw [heap_cell hP5.out]; rfl
      have p8 : w5.cell? ⟨K, 8, none⟩ = some (.bool pc) := by rw [heap_cell hP5.out]; rfl
      have hzq := heap_lt hC5.out
      have hzp := heap_lt hP5.out
      go_wp2_with fail
      refine QS.out.mono ?_
      rintro e w6 ⟨rfl, g6⟩
      go_wp2_with fail
      refine (HW.out _ (G5.out.trans g6)).mono ?_
      rintro e w7 ⟨rfl, g7⟩
      go_wp2_with fail
      go_ret
      exact ⟨rfl, (G5.out.trans g6).trans g7⟩
    · have hml : maxI l = l := by unfold maxI; split <;> omega
      have hlb : 0 ≤ l := by omega
      have f7 : w4.cell? ⟨w.heap.size, 7, none⟩ = some (.int .i64 l) := by rw [heap_cell hC4.out]; rfl
      have hzq := heap_lt hC4.out
      replace hml := hid hml
      go_upto_region 9 with fail
      replace hml := hml.out
      clear f7 hzq
      have QS := Queries_c ⟨pn, po, pd, maxI l, pc⟩ ⟨pn, po, pd, l, pc⟩ _ _ _ _ w4 hFP.out ⟨_, _, _, _, _, rfl, N4.out⟩ ⟨_, _, _, _, _, rfl, IN.out w4 G4.out⟩
      rw [(sameQ_iff _ _).2 (by rw [hml])] at QS
      replace QS := hid QS
      replace hml := hid hml
      have q0 : w4.cell? ⟨w.heap.size, 0, none⟩ = some (.int .i64 uk) := by rw [heap_cell hC4.out]; rfl
      have q1 : w4.cell? ⟨w.heap.size, 1, none⟩ = some (.slice up un uc) := by rw [heap_cell hC4.out]; rfl
      have q2 : w4.cell? ⟨w.heap.size, 2, none⟩ = some (.string uf) := by rw [heap_cell hC4.out]; rfl
      have q3 : w4.cell? ⟨w.heap.size, 3, none⟩ = some (.string us) := by rw [heap_cell hC4.out]; rfl
      have q4 : w4.cell? ⟨w.heap.size, 4, none⟩ = some (.int .i64 ux) := by rw [heap_cell hC4.out]; rfl
      have q5 : w4.cell? ⟨w.heap.size, 5, none⟩ = some (.string po) := by rw [heap_cell hC4.out]; rfl
      have q6 : w4.cell? ⟨w.heap.size, 6, none⟩ = some (.bool pd) := by rw [heap_cell hC4.out]; rfl
      have q7 : w4.cell? ⟨w.heap.size, 7, none⟩ = some (.int .i64 l) := by rw [heap_cell hC4.out]; rfl
      have q8 : w4.cell? ⟨w.heap.size, 8, none⟩ = some (.bool pc) := by rw [heap_cell hC4.out]; rfl
      have p0 : w4.cell? ⟨K, 0, none⟩ = some (.int .i64 vk) := by rw [heap_cell hP4.out]; rfl
      have p1 : w4.cell? ⟨K, 1, none⟩ = some (.slice vp vn vc) := by rw [heap_cell hP4.out]; rfl
      have p2 : w4.cell? ⟨K, 2, none⟩ = some (.string vf) := by rw [heap_cell hP4.out]; rfl
      have p3 : w4.cell? ⟨K, 3, none⟩ = some (.string vs) := by rw [heap_cell hP4.out]; rfl
      have p4 : w4.cell? ⟨K, 4, none⟩ = some (.int .i64 vx) := by rw [heap_cell hP4.out]; rfl
      have p5 : w4.cell? ⟨K, 5, none⟩ = some (.string po) := by rw [heap_cell hP4.out]; rfl
      have p6 : w4.cell? ⟨K, 6, none⟩ = some (.bool pd) := by rw [heap_cell hP4.out]; rfl
      have p7 : w4.cell? ⟨K, 7, none⟩ = some (.int .i64 (maxI l)) := by rw [heap_cell hP4.out]; rfl
      have p8 : w4.cell? ⟨K, 8, none⟩ = some (.bool pc) := by rw [heap_cell hP4.out]; rfl
      have hzq := heap_lt hC4.out
      have hzp := heap_lt hP4.out
      go_wp2_with fail
      refine QS.out.mono ?_
      rintro e w6 ⟨rfl, g6⟩
      go_wp2_with fail
      refine (HW.out _ (G4.out.trans g6)).mono ?_
      rintro e w7 ⟨rfl, g7⟩
      go_wp2_with fail
      go_ret
      exact ⟨rfl, (G4.out.trans g6).trans g7⟩
namespace LawQueryPrints
open Go.ChangeShapes Go.WideShapes Go.ChangeAt Go.RowKit
open Go.ChangeMaps (open_string shut_string)
theorem own : ownKnob Tryd.prog.godebug = none := by kernel_rfl
theorem laidOut : laidOutB Tryd.prog = true := by kernel_rfl
set_option maxRecDepth 100000 in
theorem lifted (os : Os) (started : os.Started) (H : Type) (enc : TypeId × Value → H) :
    ReturnsInHanded {} Tryd.checked os 3 .any (fun w args => (Rows.queryPrintsSpec.pre enc Tryd.prog Tryd.f3 [] false w args ∧ laidMetH Tryd.prog laidL w) ∧ sizedMet enc Tryd.prog Tryd.f3 (OpenSpec.ofChange Rows.queryPrintsSpec) false w args) (Rows.queryPrintsSpec.post enc Tryd.prog Tryd.f3 false true false false) := by
  refine returnsInHanded_of_change_and (C := Tryd.checked) (X := fun w _ => laidMetH Tryd.prog laidL w) (fun _ _ _ hh h => h.of_heap hh) own started (by kernel_rfl) Tryd.func3
    (ChangeSpec.witness_shaped (enc := enc) (C := Tryd.checked) (os := os) (X := fun w _ => laidMetH Tryd.prog laidL w) false (World.doorLaid Tryd.prog 48 os) #[.agg #[.int .i64 0, .slice none 0 0, .string ByteArray.empty, .string ByteArray.empty, .int .i64 0, .string ByteArray.empty, .bool false, .int .i64 0, .bool false]] 8 rfl (World.shaped_of_RefB (by kernel_rfl) (by kernel_rfl)) (by kernel_rfl) (by kernel_rfl) (by kernel_rfl) (door_met os _)) ?_
  intro W base args ds gs before hval0 hW hcnd hsz hL _
  have hval : ∀ (j : Nat) t v, Tryd.f3.params[j]? = some t → args[j]? = some v → Value.okWide Tryd.prog W .any base t v := hval0
  obtain ⟨ht1, ht2⟩ := tabs_of_laid hL
  have hW' := hW
  obtain ⟨p, q, hA0, hV, rfl, hfz, hnd⟩ := hW
  have hA : DataW.TrodAll enc Tryd.prog W 0 (fun _ => true) true Tryd.f3.params.toList args.toList ds p := hA0
  rw [Tryd.params3] at hA hval hsz
  obtain ⟨v0, vs0, d0, ds0, p0, q0, hargs, rfl, rfl, h0, r0⟩ := trodAll_cons hA
  obtain ⟨rfl, rfl, rfl⟩ := trodAll_nil r0
  obtain rfl : args = #[v0] := by cases args; simp_all
  obtain ⟨rfl, rfl⟩ := trodVars_none hV
  have k0 := h0
  have lt0 : ∀ x ∈ p0, x.block < W.heap.size := by obtain ⟨m, hm⟩ := k0; exact DataW.trod_lt m _ _ _ hm
  have hz0 : ∀ n ∈ d0.weights Tryd.prog 26, n ≤ reachBytes := fun n hn => by
    have := List.all_eq_true.1 hsz n (DataW.weights_mem_each (j := 0) (t := 26) rfl rfl n hn)
    simpa using this
  obtain ⟨a0, w0, f0⟩ := open_query (hval 0 26 v0 rfl rfl) h0 hz0
  clear hA0 hval0
  refine (Prints_walk a0 v0 W f0 w0 ht1 ht2).mono fun e W' ⟨he, bel⟩ => ?_
  subst he
  exact ⟨_, rfl, _, _, _, [], _, [], hW', trodAll_mk1 (shut_bool Tryd.underlying4 _), (trodAll_cons_mk (Below.trod laidOut (by kernel_rfl) (of_decide_eq_true (by kernel_rfl)) k0 bel lt0) trodAll_mk0), rfl, bel.frame _, fun h => by cases h⟩
theorem over : Rows.queryPrintsRow.holds Tryd.pinned (OpenSpec.ofChange Rows.queryPrintsSpec) :=
  OpenClaim.holds_of_wide 3 Tryd.f3 rfl rfl rfl rfl rfl rfl rfl ⟨rfl, rfl, rfl, rfl, rfl⟩ rfl rfl rfl rfl rfl (by kernel_rfl) Tryd.func3 (by kernel_rfl)
    (of_decide_eq_true (by kernel_rfl)) (by unfold Func.isWrapper; first | (rw [if_pos (by decide +kernel)]; kernel_rfl) | (rw [if_neg (by decide +kernel)]; exact ⟨rfl, rfl⟩))
    (fun os started H enc _ => lifted os started H enc)
end LawQueryPrints
/-- The given statement: the tied card. -/
theorem queryPrints_proved : Rows.QueryPrintsCardSaid :=
  Claim7.holds_tied_plain_at .later [] [.data, .data, .data, .listed, .data] true (true, "95201100b90d23e864d10c69b3da32f70030d937e4d7b485caf5136514669ad6") true
    LawQueryPrints.over (fun _ h => by cases h) (by kernel_rfl) (fun _ h => by cases h) queryPrints_row_tie rfl ⟨rfl, rfl⟩ (by kernel_rfl) rfl
    (fun f fn hf hfn => by
      obtain rfl : f = 3 := Option.some.inj ((show Tryd.prog.funcNamed Rows.queryPrintsRow.func = some 3 by kernel_rfl).symm.trans hf) |>.symm
      obtain rfl : fn = Tryd.f3 := (Option.some.inj (Tryd.func3.symm.trans hfn)).symm
      exact ⟨by kernel_rfl, fun j t ht => by
        rw [Tryd.params3] at ht
        have hm : t ∈ [26] := by simpa using Array.mem_of_getElem? ht
        have hall : ([26].all fun u => !Tryd.prog.wantsStandIn u) = true := by kernel_rfl
        exact (show Tryd.prog.wantsStandIn t = false by simpa using List.all_eq_true.1 hall t hm)⟩)
    (by kernel_rfl)
#print axioms queryPrints_proved
end Go.Proofs.YteilkcdbdpkbfaaDoor
