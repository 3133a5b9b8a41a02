/- A text is read as a query: the whole. -/
import Derived.Test.YteilkcdbdpkbfaaDoorQParse
import Derived.Test.YteilkcdbdpkbfaaDoorQTokOk
namespace Go.Proofs.YteilkcdbdpkbfaaDoor
open Go.RowKit
set_option linter.unusedVariables false
set_option linter.unusedSimpArgs false
attribute [local go_sem ↓ high] setCell_twice
theorem Scan_any (s : ByteArray) (w : World) (hs : s.size ≤ 4611686018427387904) : Calls Tryd.prog 25 #[.string s] w (ScanPost (scan s.data.toList) w) := by
  unfold scan
  by_cases h : 4096 < s.data.toList.length
  · rw [if_pos h]
    have h' : 4096 < s.size := by simpa using h
    clear h
    go_enter Tryd.func25, Tryd.ntmps25
    go_wp2_with fail
    go_ret3
    exact ⟨.slice none 0 0, rfl, Toks.nil _, Grow.refl _⟩
  · rw [if_neg h]
    exact Scan_c s w (by simpa using h)
/-- Behind the reading of a text. -/
def ParsePost (r : ParseR) (w : World) (e : Ending) (w' : World) : Prop := ∃ v, e = .returned (.tuple #[v, .int .i64 (r.at_ : Int), .int .i64 (r.e : Int)]) ∧ r.q.In (fun b => w.heap.size ≤ b) w' v ∧ Grow w w'
theorem QueryR.In.zero (S : Nat → Prop) (w : World) : QueryR.zero.In S w (.agg #[.int .i64 0, .slice none 0 0, .string ⟨#[]⟩, .string ⟨#[]⟩, .int .i64 0, .string ⟨#[]⟩, .bool false, .int .i64 0, .bool false]) :=
  ⟨_, _, _, _, _, rfl, NodeR.In.leaf S w 0 ⟨#[]⟩ ⟨#[]⟩ 0⟩
theorem results_cells3 {P : Program} {fn : Func} {p q r : Tmp} {ty t1 t2 : TypeId} (h : fn.results = #[.cell p ty, .cell q t1, .cell r t2]) (tmps : Array Value) (w : World) (g a b : Nat) (cs : Array Value) (d : TypeDesc) (x y : Value)
    (hp : tmps.getD p undef = .pointer (some ⟨g, 0, none⟩)) (hq : tmps.getD q undef = .pointer (some ⟨a, 0, none⟩)) (hr : tmps.getD r undef = .pointer (some ⟨b, 0, none⟩)) (hg : w.heap[g]? = some (.cells cs ty (0, 0)))
    (hu : P.underlying ty = some d) (hd : (match d with | .struct _ | .array _ _ => true | _ => false) = true) (hi : (P.info? ty).map (·.size) = some cs.size)
    (hx : (loadVar t1 ⟨a, 0, none⟩).run P w = .ok x w) (hy : (loadVar t2 ⟨b, 0, none⟩).run P w = .ok y w) :
    (results fn tmps).run P w = .ok (.tuple #[.agg cs, x, y]) w := by
  have hp' : tmps[p]?.getD undef = .pointer (some ⟨g, 0, none⟩) := by simpa using hp
  have hq' : tmps[q]?.getD undef = .pointer (some ⟨a, 0, none⟩) := by simpa using hq
  have hr' : tmps[r]?.getD undef = .pointer (some ⟨b, 0, none⟩) := by simpa using hr
  simp [results, h, hp', hq', hr', asAddr, Result.andThen, run_loadVar_row w g ty ty cs (0, 0) d hg hu hd hi, hx, hy]
theorem parseP_bad {L : List UInt8} (h : (scan L).err ≠ 0) : parseP L = ⟨.zero, (scan L).stop, (scan L).err⟩ := by
  unfold parseP
  unfold scan at h ⊢
  by_cases hl : 4096 < L.length
  · simp [hl]
  · simp only [hl, if_false] at h ⊢
    rw [if_pos h]
theorem parseP_good {L : List UInt8} (h : (scan L).err = 0) : parseP L = (match queryP L.length (scan L).toks with
    | .ok q _ => ⟨q, L.length, 0⟩
    | .bad e p => ⟨.zero, p, e⟩) ∧ L.length ≤ 4096 := by
  unfold parseP
  unfold scan at h ⊢
  by_cases hl : 4096 < L.length
  · simp [hl] at h
  · simp only [hl, if_false] at h ⊢
    rw [if_neg (by omega)]
    exact ⟨rfl, by omega⟩
theorem loadInt {w : World} {b : Nat} {x : Value} (h : w.cell? ⟨b, 0, none⟩ = some x) : (loadVar 3 ⟨b, 0, none⟩).run Tryd.prog w = .ok x w := by
  simp [loadVar, go_sem, Tryd.isAgg3, h]
theorem loadErr {w : World} {b : Nat} {x : Value} (h : w.cell? ⟨b, 0, none⟩ = some x) : (loadVar 29 ⟨b, 0, none⟩).run Tryd.prog w = .ok x w := by
  simp [loadVar, go_sem, Tryd.isAgg29, h]
/-- The three results, read. -/
theorem parse_ret {r : ParseR} {w W : World} {tm : Array Value} {qb ab eb : Nat} (hq : tm.getD 2 undef = .pointer (some ⟨qb, 0, none⟩)) (ha : tm.getD 3 undef = .pointer (some ⟨ab, 0, none⟩)) (he : tm.getD 4 undef = .pointer (some ⟨eb, 0, none⟩)) {c0 c1 c2 c3 c4 c5 c6 c7 c8 : Value}
    (Q : W.heap[qb]? = some (.cells #[c0, c1, c2, c3, c4, c5, c6, c7, c8] 26)) (A : W.heap[ab]? = some (.cells #[.int .i64 (r.at_ : Int)] 3)) (E : W.heap[eb]? = some (.cells #[.int .i64 (r.e : Int)] 29)) (hin : r.q.In (fun b => w.heap.size ≤ b) W (.agg #[c0, c1, c2, c3, c4, c5, c6, c7, c8])) (G : Grow w W) :
    ∃ v, (results Tryd.f13 tm).run Tryd.prog W = .ok v W ∧ ParsePost r w (.returned v) W :=
  ⟨_, results_cells3 (fn := Tryd.f13) (p := 2) (q := 3) (r := 4) rfl tm W qb ab eb _ _ _ _ hq ha he Q Tryd.underlying26 rfl (by kernel_rfl) (loadInt (by rw [heap_cell A]; rfl)) (loadErr (by rw [heap_cell E]; rfl)), _, rfl, hin, G⟩
set_option maxRecDepth 100000 in
set_option maxHeartbeats 8000000 in
theorem Parse_c (s : ByteArray) (w : World) (hs : s.size ≤ 4611686018427387904) : Calls Tryd.prog 13 #[.string s] w (ParsePost (parseP s.data.toList) w) := by
  have hmf := makeFn
  have HSC := hid (fun w' => Scan_any s w' hs)
  have hsl : (s.size : Int) ≤ 4611686018427387904 := by omega
  go_enter_defers Tryd.func13, Tryd.ntmps13
  go_wp2_with fail
  refine (HSC.out _).mono ?_
  rintro e w1 ⟨v, rfl, hT, g1⟩
  have Q1 := g1.heap (heap_alloc_keep (heap_alloc_keep (heap_new w QueryZ) (.cells #[.int .i64 0] 3)) (.cells #[.int .i64 0] 29))
  have A1 := g1.heap (heap_alloc_keep (heap_newAt (w.alloc QueryZ) (.cells #[.int .i64 0] 3) (g := w.heap.size + 1) (by simp)) (.cells #[.int .i64 0] 29))
  have E1 := g1.heap (heap_newAt ((w.alloc QueryZ).alloc (.cells #[.int .i64 0] 3)) (.cells #[.int .i64 0] 29) (g := w.heap.size + 1 + 1) (by simp))
  have G1 := hid (Grow.trans (Grow.trans (Grow.trans (Grow.alloc w QueryZ) (Grow.alloc _ (.cells #[.int .i64 0] 3))) (Grow.alloc _ (.cells #[.int .i64 0] 29))) g1)
  clear g1 HSC
  generalize hqb : w.heap.size = qb at *
  have hws : w.heap.size ≤ qb := Nat.le_of_eq hqb
  replace hqb := hid hqb
  have q0 : w1.cell? ⟨qb, 0, none⟩ = some (.int .i64 0) := by rw [heap_cell Q1]; rfl
  have f0 : w1.frozen? ⟨qb, 0, none⟩ = false := heap_frozen Q1 0 (by omega)
  have q1 : w1.cell? ⟨qb, 1, none⟩ = some (.slice none 0 0) := by rw [heap_cell Q1]; rfl
  have f1 : w1.frozen? ⟨qb, 1, none⟩ = false := heap_frozen Q1 1 (by omega)
  have q2 : w1.cell? ⟨qb, 2, none⟩ = some (.string ⟨#[]⟩) := by rw [heap_cell Q1]; rfl
  have f2 : w1.frozen? ⟨qb, 2, none⟩ = false := heap_frozen Q1 2 (by omega)
  have q3 : w1.cell? ⟨qb, 3, none⟩ = some (.string ⟨#[]⟩) := by rw [heap_cell Q1]; rfl
  have f3 : w1.frozen? ⟨qb, 3, none⟩ = false := heap_frozen Q1 3 (by omega)
  have q4 : w1.cell? ⟨qb, 4, none⟩ = some (.int .i64 0) := by rw [heap_cell Q1]; rfl
  have f4 : w1.frozen? ⟨qb, 4, none⟩ = false := heap_frozen Q1 4 (by omega)
  have q5 : w1.cell? ⟨qb, 5, none⟩ = some (.string ⟨#[]⟩) := by rw [heap_cell Q1]; rfl
  have f5 : w1.frozen? ⟨qb, 5, none⟩ = false := heap_frozen Q1 5 (by omega)
  have q6 : w1.cell? ⟨qb, 6, none⟩ = some (.bool false) := by rw [heap_cell Q1]; rfl
  have f6 : w1.frozen? ⟨qb, 6, none⟩ = false := heap_frozen Q1 6 (by omega)
  have q7 : w1.cell? ⟨qb, 7, none⟩ = some (.int .i64 0) := by rw [heap_cell Q1]; rfl
  have f7 : w1.frozen? ⟨qb, 7, none⟩ = false := heap_frozen Q1 7 (by omega)
  have q8 : w1.cell? ⟨qb, 8, none⟩ = some (.bool false) := by rw [heap_cell Q1]; rfl
  have f8 : w1.frozen? ⟨qb, 8, none⟩ = false := heap_frozen Q1 8 (by omega)
  have a0 : w1.cell? ⟨qb + 1, 0, none⟩ = some (.int .i64 0) := by rw [heap_cell A1]; rfl
  have af : w1.frozen? ⟨qb + 1, 0, none⟩ = false := heap_frozen A1 0 (by omega)
  have e0 : w1.cell? ⟨qb + 1 + 1, 0, none⟩ = some (.int .i64 0) := by rw [heap_cell E1]; rfl
  have ef : w1.frozen? ⟨qb + 1 + 1, 0, none⟩ = false := heap_frozen E1 0 (by omega)
  have le1 := heap_lt E1
  have n1 : qb ≠ qb + 1 := by omega
  have n2 : qb ≠ qb + 1 + 1 := by omega
  have n3 : qb + 1 ≠ qb + 1 + 1 := by omega
  have Q2 := hid (heap_keep (heap_keep Q1 ⟨qb + 1, 0, none⟩ (.int .i64 ((scan s.data.toList).stop : Int)) n1) ⟨qb + 1 + 1, 0, none⟩ (.int .i64 ((scan s.data.toList).err : Int)) n2)
  have A2 := hid (heap_keep (heap_set A1 0 (.int .i64 ((scan s.data.toList).stop : Int))) ⟨qb + 1 + 1, 0, none⟩ (.int .i64 ((scan s.data.toList).err : Int)) n3)
  have E2 := hid (heap_set (heap_keep E1 ⟨qb + 1, 0, none⟩ (.int .i64 ((scan s.data.toList).stop : Int)) (Ne.symm n3)) 0 (.int .i64 ((scan s.data.toList).err : Int)))
  have G2 := hid (Grow.set (Grow.set G1.out (qb + 1) 0 (by omega) (.int .i64 ((scan s.data.toList).stop : Int))) (qb + 1 + 1) 0 (by omega) (.int .i64 ((scan s.data.toList).err : Int)))
  have T2 := hid (Toks.grow hT (Grow.trans (Grow.refl w1) (Grow.refl w1)))
  replace Q1 := hid Q1
  replace A1 := hid A1
  replace E1 := hid E1
  clear hT
  by_cases he : (scan s.data.toList).err = 0
  · obtain ⟨HP, hlen⟩ := parseP_good he
    have HOK := hid (show ∀ t ∈ (scan s.data.toList).toks, Tok.Ok t from by
      unfold scan
      rw [if_neg (by omega)]
      exact scanF_ok _ _ 0 (by omega))
    replace HP := hid HP
    have e1 : (((scan s.data.toList).err : Int) != 0) = false := by simpa using he
    have hsz : s.data.toList.length = s.size := by simp
    rw [hsz] at HP hlen
    replace hsz := hid hsz
    generalize scan s.data.toList = sc at *
    obtain ⟨p, cap, rfl, ⟨hc1, hc2⟩, hcell⟩ := T2.out
    have hlen2 : (s.size : Int) ≤ 4096 := by omega
    have hl9 : (sc.toks.length : Int) ≤ 4096 := by omega
    replace HOK := hid HOK
    clear he T2
    have RD := hid (show ∀ (w3 : World) (rb : Nat), Grow ((w1.setCell ⟨qb + 1, 0, none⟩ (.int .i64 (sc.stop : Int))).setCell ⟨qb + 1 + 1, 0, none⟩ (.int .i64 (sc.err : Int))) w3 → w3.heap[rb]? = some (.cells #[.slice p sc.toks.length cap, .int .i64 (s.size : Int), .int .i64 0] 67) → w1.heap.size ≤ rb → RdAt w3 rb s.size 0 sc.toks from by
      intro w3 rb g3 hh hrb
      refine ⟨p, cap, hh, hc2, hc1, fun hL => ?_, HOK.out⟩
      obtain ⟨b, rfl, hc⟩ := hcell (List.length_pos_iff.2 hL)
      have h0 := hc 0 (List.length_pos_iff.2 hL)
      have hb : b < w1.heap.size := World.block_lt_of_cell? _ _ h0.1
      have b1 : b ≠ qb + 1 := fun e => by
        have h1 := h0.2.1
        rw [e, heap_cell A1.out] at h1
        simp at h1
      have b2 : b ≠ qb + 1 + 1 := fun e => by
        have h1 := h0.2.1
        rw [e, heap_cell E1.out] at h1
        simp at h1
      have t1 : TokRow w1 b 0 sc.toks := TokRow.of_cells _ 0 (fun i hi => by simpa using hc i hi)
      have t2 := TokRow.grown (Lib.grownBy_setB (World.grownBy.refl _ (some (qb + 1 + 1))) 0 (.int .i64 (sc.err : Int))) b2 _ _ (TokRow.grown (Lib.grownBy_setB (World.grownBy.refl w1 (some (qb + 1))) 0 (.int .i64 (sc.stop : Int))) b1 _ _ t1)
      have hs3 := g3.size
      simp only [World.size_setCell] at hs3
      exact ⟨b, 0, rfl, by omega, by omega, by omega, TokRow.grow g3 _ _ t2⟩)
    clear hcell HOK
    generalize sc.toks = TK at *
    have RH := hid (heap_newAt ((w1.setCell ⟨qb + 1, 0, none⟩ (.int .i64 (sc.stop : Int))).setCell ⟨qb + 1 + 1, 0, none⟩ (.int .i64 (sc.err : Int))) (.cells #[.slice p TK.length cap, .int .i64 (s.size : Int), .int .i64 0] 67) (g := w1.heap.size) (by simp))
    have QR := hid (query_c (w1.heap.size + 1) w1.heap.size s.size TK _ (RD.out _ w1.heap.size (Grow.alloc _ _) RH.out (Nat.le_refl _)) (by omega) (by simp))
    have Q3 := hid (heap_alloc_keep Q2.out (.cells #[.slice p TK.length cap, .int .i64 (s.size : Int), .int .i64 0] 67))
    have A3 := hid (heap_alloc_keep A2.out (.cells #[.slice p TK.length cap, .int .i64 (s.size : Int), .int .i64 0] 67))
    have E3 := hid (heap_alloc_keep E2.out (.cells #[.slice p TK.length cap, .int .i64 (s.size : Int), .int .i64 0] 67))
    have G3 := hid (G2.out.trans (Grow.alloc _ (.cells #[.slice p TK.length cap, .int .i64 (s.size : Int), .int .i64 0] 67)))
    clear RD RH
    go_wp2_with fail
    refine (QR.out).mono ?_
    clear QR
    intro e w4 hpost
    generalize (((w1.setCell ⟨qb + 1, 0, none⟩ (.int .i64 (sc.stop : Int))).setCell ⟨qb + 1 + 1, 0, none⟩ (.int .i64 (sc.err : Int))).alloc (.cells #[.slice p TK.length cap, .int .i64 (s.size : Int), .int .i64 0] 67)) = w3 at *
    generalize hrb : w1.heap.size = rb at *
    have hrb2 : qb + 1 + 1 < rb := le1
    have hrb3 : w.heap.size ≤ rb := by omega
    replace hrb := hid hrb
    generalize hq : queryP s.size TK = res at *
    obtain ⟨g4, hpost⟩ := hpost
    have Q4 := hid (heapBy g4 Q3.out (by omega))
    have A4 := hid (heapBy g4 A3.out (by omega))
    have E4 := hid (heapBy g4 E3.out (by omega))
    have G4 : Grow w w4 := ⟨g4.os.trans G3.out.os, g4.tape.trans G3.out.tape, g4.output.trans G3.out.output, Nat.le_trans G3.out.size g4.size, fun k hk => (g4.block k (Nat.lt_of_lt_of_le hk G3.out.size) (by simp; omega)).trans (G3.out.block k hk)⟩
    replace G4 := hid G4
    clear q0 q1 q2 q3 q4 q5 q6 q7 q8 f0 f1 f2 f3 f4 f5 f6 f7 f8 a0 af e0 ef le1 e1 hc1 hc2
    cases res with
    | bad k pp =>
      obtain ⟨rfl, ra⟩ := hpost
      have HP2 := hid (show parseP s.data.toList = ⟨.zero, pp, k⟩ from by rw [HP.out])
      unfold Fault
      go_wp2_with fail
      refine leaves_cons (f := 26) (args := #[.pointer (some ⟨qb, 0, none⟩), .pointer (some ⟨qb + 1, 0, none⟩), .pointer (some ⟨qb + 1 + 1, 0, none⟩)]) (by simp) (by simp [go_sem]) ?_
      refine (catch_c k pp qb (qb + 1) (qb + 1 + 1) w w4 G4.out hws (by omega) (by omega) n1 n2 n3 _ _ _ _ _ _ _ _ _ _ _ Q4.out A4.out E4.out).mono ?_
      rintro e u' w5 ⟨rfl, rfl, K1, K2, K3, K4⟩
      have R := fun tm h1 h2 h3 => parse_ret (r := ⟨.zero, pp, k⟩) (tm := tm) h1 h2 h3 K1 K2 K3 (QueryR.In.zero _ _) K4
      rw [← HP2.out] at R
      exact R _ rfl rfl rfl
    | ok q R =>
      obtain ⟨v, rfl, ⟨c0, c1, c2, c3, c4, rfl, hn⟩, r4⟩ := hpost
      have HP2 := hid (show parseP s.data.toList = ⟨q, s.size, 0⟩ from by rw [HP.out])
      have q0 : w4.cell? ⟨qb, 0, none⟩ = some (.int .i64 0) := by rw [heap_cell Q4.out]; rfl
      have f0 : w4.frozen? ⟨qb, 0, none⟩ = false := heap_frozen Q4.out 0 (by omega)
      have q1 : w4.cell? ⟨qb, 1, none⟩ = some (.slice none 0 0) := by rw [heap_cell Q4.out]; rfl
      have f1 : w4.frozen? ⟨qb, 1, none⟩ = false := heap_frozen Q4.out 1 (by omega)
      have q2 : w4.cell? ⟨qb, 2, none⟩ = some (.string ⟨#[]⟩) := by rw [heap_cell Q4.out]; rfl
      have f2 : w4.frozen? ⟨qb, 2, none⟩ = false := heap_frozen Q4.out 2 (by omega)
      have q3 : w4.cell? ⟨qb, 3, none⟩ = some (.string ⟨#[]⟩) := by rw [heap_cell Q4.out]; rfl
      have f3 : w4.frozen? ⟨qb, 3, none⟩ = false := heap_frozen Q4.out 3 (by omega)
      have q4 : w4.cell? ⟨qb, 4, none⟩ = some (.int .i64 0) := by rw [heap_cell Q4.out]; rfl
      have f4 : w4.frozen? ⟨qb, 4, none⟩ = false := heap_frozen Q4.out 4 (by omega)
      have q5 : w4.cell? ⟨qb, 5, none⟩ = some (.string ⟨#[]⟩) := by rw [heap_cell Q4.out]; rfl
      have f5 : w4.frozen? ⟨qb, 5, none⟩ = false := heap_frozen Q4.out 5 (by omega)
      have q6 : w4.cell? ⟨qb, 6, none⟩ = some (.bool false) := by rw [heap_cell Q4.out]; rfl
      have f6 : w4.frozen? ⟨qb, 6, none⟩ = false := heap_frozen Q4.out 6 (by omega)
      have q7 : w4.cell? ⟨qb, 7, none⟩ = some (.int .i64 0) := by rw [heap_cell Q4.out]; rfl
      have f7 : w4.frozen? ⟨qb, 7, none⟩ = false := heap_frozen Q4.out 7 (by omega)
      have q8 : w4.cell? ⟨qb, 8, none⟩ = some (.bool false) := by rw [heap_cell Q4.out]; rfl
      have f8 : w4.frozen? ⟨qb, 8, none⟩ = false := heap_frozen Q4.out 8 (by omega)
      have a0 : w4.cell? ⟨qb + 1, 0, none⟩ = some (.int .i64 (sc.stop : Int)) := by rw [heap_cell A4.out]; rfl
      have af : w4.frozen? ⟨qb + 1, 0, none⟩ = false := heap_frozen A4.out 0 (by omega)
      have e0 : w4.cell? ⟨qb + 1 + 1, 0, none⟩ = some (.int .i64 (sc.err : Int)) := by rw [heap_cell E4.out]; rfl
      have ef : w4.frozen? ⟨qb + 1 + 1, 0, none⟩ = false := heap_frozen E4.out 0 (by omega)
      obtain ⟨nk, np, nl, nc, nf, ns, nx, hcs⟩ := NodeR.In.value hn
      simp only [Value.agg.injEq, Array.mk.injEq, List.cons.injEq, and_true] at hcs
      obtain ⟨rfl, rfl, rfl, rfl, rfl⟩ := hcs
      replace hn := hid hn
      clear r4 hq HP
      go_wp2_with fail
      refine leaves_cons (f := 26) (args := #[.pointer (some ⟨qb, 0, none⟩), .pointer (some ⟨qb + 1, 0, none⟩), .pointer (some ⟨qb + 1 + 1, 0, none⟩)]) (by simp) (by simp [go_sem]) ?_
      refine (catchIdle_c _ _ _ _).mono ?_
      rintro e u' w5 ⟨rfl, rfl, rfl⟩
      have K1 := set9_heap Q4.out (.int .i64 nk) (.slice np nl nc) (.string nf) (.string ns) (.int .i64 nx) (.string q.order) (.bool q.down) (.int .i64 q.limit) (.bool q.count)
      have K2 := set9_keep A4.out (Ne.symm n1) (.int .i64 nk) (.slice np nl nc) (.string nf) (.string ns) (.int .i64 nx) (.string q.order) (.bool q.down) (.int .i64 q.limit) (.bool q.count)
      have K3 := set9_keep E4.out (Ne.symm n2) (.int .i64 nk) (.slice np nl nc) (.string nf) (.string ns) (.int .i64 nx) (.string q.order) (.bool q.down) (.int .i64 q.limit) (.bool q.count)
      have K4 := set9_grow G4.out hws (.int .i64 nk) (.slice np nl nc) (.string nf) (.string ns) (.int .i64 nx) (.string q.order) (.bool q.down) (.int .i64 q.limit) (.bool q.count)
      have N1 := set9_by w4 qb (.int .i64 nk) (.slice np nl nc) (.string nf) (.string ns) (.int .i64 nx) (.string q.order) (.bool q.down) (.int .i64 q.limit) (.bool q.count)
      have K5 := heap_keep (heap_keep K1 ⟨qb + 1, 0, none⟩ (.int .i64 (s.size : Int)) n1) ⟨qb + 1 + 1, 0, none⟩ (.int .i64 0) n2
      have K6 := heap_keep (heap_set K2 0 (.int .i64 (s.size : Int))) ⟨qb + 1 + 1, 0, none⟩ (.int .i64 0) n3
      have K7 := heap_set (heap_keep K3 ⟨qb + 1, 0, none⟩ (.int .i64 (s.size : Int)) (Ne.symm n3)) 0 (.int .i64 0)
      have K8 := Grow.set (Grow.set K4 (qb + 1) 0 (by omega) (.int .i64 (s.size : Int))) (qb + 1 + 1) 0 (by omega) (.int .i64 0)
      have off : ∀ {a : World} (g : Nat) (b : Nat), b < a.heap.size → rb + 1 ≤ b → g < rb → some b ≠ some g := fun g b _ hb hg e => by have := Option.some.inj e; omega
      have N2 := NodeR.In.grown (fun b h1 h2 => off (a := _) (qb + 1 + 1) b h1 h2 (by omega)) (Lib.grownBy_setB (World.grownBy.refl _ (some (qb + 1 + 1))) 0 (.int .i64 0)) (NodeR.In.grown (fun b h1 h2 => off (a := _) (qb + 1) b h1 h2 (by omega)) (Lib.grownBy_setB (World.grownBy.refl _ (some (qb + 1))) 0 (.int .i64 (s.size : Int))) (NodeR.In.grown (fun b h1 h2 => off (a := _) qb b h1 h2 (by omega)) N1 hn.out))
      have N3 := NodeR.In.weaken (S' := fun b => w.heap.size ≤ b) (fun b _ hb => by have : rb + 1 ≤ b := hb; show w.heap.size ≤ b; omega) N2
      have R := fun tm h1 h2 h3 => parse_ret (r := ⟨q, s.size, 0⟩) (tm := tm) h1 h2 h3 K5 K6 K7 ⟨_, _, _, _, _, rfl, N3⟩ K8
      rw [← HP2.out] at R
      exact R _ rfl rfl rfl
  · have HP := hid (parseP_bad he)
    have e1 : (((scan s.data.toList).err : Int) != 0) = true := by simpa using he
    generalize scan s.data.toList = sc at *
    clear he
    go_wp2_with fail
    go_region
    go_wp2_with fail
    have K1 := set9_heap Q2.out (.int .i64 0) (.slice none 0 0) (.string ⟨#[]⟩) (.string ⟨#[]⟩) (.int .i64 0) (.string ⟨#[]⟩) (.bool false) (.int .i64 0) (.bool false)
    have K2 := set9_keep A2.out (Ne.symm n1) (.int .i64 0) (.slice none 0 0) (.string ⟨#[]⟩) (.string ⟨#[]⟩) (.int .i64 0) (.string ⟨#[]⟩) (.bool false) (.int .i64 0) (.bool false)
    have K3 := set9_keep E2.out (Ne.symm n2) (.int .i64 0) (.slice none 0 0) (.string ⟨#[]⟩) (.string ⟨#[]⟩) (.int .i64 0) (.string ⟨#[]⟩) (.bool false) (.int .i64 0) (.bool false)
    have K4 := set9_grow G2.out hws (.int .i64 0) (.slice none 0 0) (.string ⟨#[]⟩) (.string ⟨#[]⟩) (.int .i64 0) (.string ⟨#[]⟩) (.bool false) (.int .i64 0) (.bool false)
    have K5 := (Grow.drew _).heap (heap_keep (heap_keep K1 ⟨qb + 1, 0, none⟩ (.int .i64 (sc.stop : Int)) n1) ⟨qb + 1 + 1, 0, none⟩ (.int .i64 (sc.err : Int)) n2)
    have K6 := (Grow.drew _).heap (heap_keep (heap_set K2 0 (.int .i64 (sc.stop : Int))) ⟨qb + 1 + 1, 0, none⟩ (.int .i64 (sc.err : Int)) n3)
    have K7 := (Grow.drew _).heap (heap_set (heap_keep K3 ⟨qb + 1, 0, none⟩ (.int .i64 (sc.stop : Int)) (Ne.symm n3)) 0 (.int .i64 (sc.err : Int)))
    have K8 := Grow.drewR (Grow.set (Grow.set K4 (qb + 1) 0 (by omega) (.int .i64 (sc.stop : Int))) (qb + 1 + 1) 0 (by omega) (.int .i64 (sc.err : Int)))
    have R := fun tm h1 h2 h3 => parse_ret (r := ⟨.zero, sc.stop, sc.err⟩) (tm := tm) h1 h2 h3 K5 K6 K7 (QueryR.In.zero _ _) K8
    rw [← HP.out] at R
    exact R _ rfl rfl rfl
end Go.Proofs.YteilkcdbdpkbfaaDoor
