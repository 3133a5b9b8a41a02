/- A query is written. -/
import Derived.Test.YteilkcdbdpkbfaaDoorQText
import Derived.Test.YteilkcdbdpkbfaaDoorQFit
import Derived.Test.YteilkcdbdpkbfaaDoorQSize
import Derived.Deep.Cut
namespace Go.Proofs.YteilkcdbdpkbfaaDoor
open Go.RowKit
set_option linter.unusedVariables false
set_option linter.unusedSimpArgs false
attribute [local go_sem ↓ high] setCell_twice run_imax
def print1 (q : QueryR) : ByteArray := if q.count = true then ⟨#[99, 111, 117, 110, 116, 32]⟩ ++ strB (nodeT 0 q.whr) else strB (nodeT 0 q.whr)
def print2 (q : QueryR) : ByteArray := if q.order = ⟨#[]⟩ then print1 q else print1 q ++ (⟨#[32, 111, 114, 100, 101, 114, 32]⟩ ++ q.order)
def print3 (q : QueryR) : ByteArray := if q.down = true then print2 q ++ ⟨#[32, 100, 111, 119, 110]⟩ else print2 q
/-- A query, written. -/
def printB (q : QueryR) : ByteArray := if 0 ≤ q.limit then print3 q ++ (⟨#[32, 108, 105, 109, 105, 116, 32]⟩ ++ strB (Lib.itoa q.limit)) else print3 q
def maxI (x : Int) : Int := if -1 ≤ x then x else -1
/-- What is written is read as it was. -/
def okP (q : QueryR) (r : ParseR) : Bool := decide (r.e = 0) && sameN r.q.whr q.whr && decide (r.q.order = q.order) && decide (r.q.down = q.down) && decide (r.q.count = q.count) && decide (r.q.limit = maxI q.limit)
def printP (q : QueryR) : ByteArray × Nat := if okP q (parseP (printB q).data.toList) = true then (printB q, 0) else (⟨#[]⟩, 1)
theorem imax_maxI (x : Int) : imax (-1) x = maxI x := by unfold imax maxI; split <;> split <;> omega
/-- What may be written. -/
structure QueryR.Can (q : QueryR) : Prop where
  fit : q.whr.Fit
  wgt : q.whr.wgt ≤ 1073741824
  order : q.order.size ≤ 140737488351232
  limit : I64 q.limit
theorem app_size (a b : ByteArray) : (a ++ b).size = a.size + b.size := ByteArray.size_append
theorem print1_size {q : QueryR} (h : q.Can) : (print1 q).size ≤ 34359738400 := by
  have h1 := nodeT_len 0 q.whr h.fit
  have h2 := h.wgt
  unfold print1
  split
  · rw [app_size, strB_size, show (ByteArray.mk #[99, 111, 117, 110, 116, 32]).size = 6 from rfl]; omega
  · rw [strB_size]; omega
theorem print2_size {q : QueryR} (h : q.Can) : (print2 q).size ≤ 140771848089700 := by
  have h1 := print1_size h
  have h2 := h.order
  unfold print2
  split
  · omega
  · rw [app_size, app_size, show (ByteArray.mk #[32, 111, 114, 100, 101, 114, 32]).size = 7 from rfl]; omega
theorem print3_size {q : QueryR} (h : q.Can) : (print3 q).size ≤ 140771848089800 := by
  have h1 := print2_size h
  unfold print3
  split
  · rw [app_size, show (ByteArray.mk #[32, 100, 111, 119, 110]).size = 5 from rfl]; omega
  · omega
theorem printB_size {q : QueryR} (h : q.Can) : (printB q).size ≤ 140771848089900 := by
  have h1 := print3_size h
  have h2 := Lib.itoa_length_le q.limit h.limit.1 h.limit.2
  unfold printB
  split
  · rw [app_size, app_size, strB_size, show (ByteArray.mk #[32, 108, 105, 109, 105, 116, 32]).size = 7 from rfl]; omega
  · omega
set_option maxRecDepth 100000 in
set_option maxHeartbeats 8000000 in
theorem Print_c (q : QueryR) (hc : q.Can) (S : Nat → Prop) (u : Value) (w : World) (ht1 : tabSpace w) (ht2 : tabPow w) (hq : q.In S w u) :
    Calls Tryd.prog 10 #[u] w fun e w' => e = .returned (.tuple #[.string (printP q).1, .int .i64 ((printP q).2 : Int)]) ∧ Grow w w' := by
  have hs1 := print1_size hc
  have hs2 := print2_size hc
  have hs3 := print3_size hc
  have hs4 := printB_size hc
  have hn0 := nodeT_len 0 q.whr hc.fit
  have hn1 := hc.wgt
  have his := Lib.itoa_length_le q.limit hc.limit.1 hc.limit.2
  have hor := hc.order
  have HIT := hid (fun w' (g : Grow w w') => itoa_c q.limit hc.limit w' (tab_grow ht2 g))
  have HPA := hid (fun w' => Parse_c (printB q) w' (by omega))
  have HPF := hid (parseP_fit (printB q).data.toList)
  have HP1 := hid (show print1 q = _ from rfl)
  obtain ⟨n, o, d, l, c⟩ := q
  obtain ⟨a0, a1, a2, a3, a4, rfl, hin⟩ := hq
  simp only at hin
  obtain ⟨ak, ap, an, ac, af, as_, ax, e⟩ := NodeR.In.value hin
  simp only [Value.agg.injEq, Array.mk.injEq, List.cons.injEq, and_true] at e
  obtain ⟨rfl, rfl, rfl, rfl, rfl⟩ := e
  have HND := hid (node_c n.wt n S _ w (Nat.le_refl _) hc.fit hc.wgt ht1 ht2 hin)
  have HIN := hid hin
  have e1 := hid (show print1 ⟨n, o, d, l, c⟩ = if c = true then ⟨#[99, 111, 117, 110, 116, 32]⟩ ++ strB (nodeT 0 n) else strB (nodeT 0 n) from rfl)
  have e2 := hid (show print2 ⟨n, o, d, l, c⟩ = if o = ⟨#[]⟩ then print1 ⟨n, o, d, l, c⟩ else print1 ⟨n, o, d, l, c⟩ ++ (⟨#[32, 111, 114, 100, 101, 114, 32]⟩ ++ o) from rfl)
  have e3 := hid (show print3 ⟨n, o, d, l, c⟩ = if d = true then print2 ⟨n, o, d, l, c⟩ ++ ⟨#[32, 100, 111, 119, 110]⟩ else print2 ⟨n, o, d, l, c⟩ from rfl)
  have e4 := hid (show printB ⟨n, o, d, l, c⟩ = if 0 ≤ l then print3 ⟨n, o, d, l, c⟩ ++ (⟨#[32, 108, 105, 109, 105, 116, 32]⟩ ++ strB (Lib.itoa l)) else print3 ⟨n, o, d, l, c⟩ from rfl)
  have HPP := hid (show ∀ b, okP ⟨n, o, d, l, c⟩ (parseP (printB ⟨n, o, d, l, c⟩).data.toList) = b → printP ⟨n, o, d, l, c⟩ = if b = true then (printB ⟨n, o, d, l, c⟩, 0) else (⟨#[]⟩, 1) from fun b h => by unfold printP; rw [h])
  simp only at hn0 hn1 his hor
  rw [← strB_size] at hn0 his
  have hln : ((strB (nodeT 0 n)).size : Int) ≤ 34359738400 := by omega
  have hli : ((strB (Lib.itoa l)).size : Int) ≤ 21 := by omega
  have hlo : (o.size : Int) ≤ 140737488351232 := by omega
  have hl1 : ((print1 ⟨n, o, d, l, c⟩).size : Int) ≤ 34359738400 := by omega
  have hl2 : ((print2 ⟨n, o, d, l, c⟩).size : Int) ≤ 140771848089700 := by omega
  have hl3 : ((print3 ⟨n, o, d, l, c⟩).size : Int) ≤ 140771848089800 := by omega
  have hl4 : ((printB ⟨n, o, d, l, c⟩).size : Int) ≤ 140771848089900 := by omega
  have k1 : ¬ 9223372036854775807 < 6 + (strB (nodeT 0 n)).size := by omega
  have k2 : ¬ 9223372036854775807 < 7 + o.size := by omega
  have k3 : ¬ 9223372036854775807 < (print1 ⟨n, o, d, l, c⟩).size + (7 + o.size) := by omega
  have k4 : ¬ 9223372036854775807 < (print2 ⟨n, o, d, l, c⟩).size + 5 := by omega
  have k5 : ¬ 9223372036854775807 < 7 + (strB (Lib.itoa l)).size := by omega
  have k6 : ¬ 9223372036854775807 < (print3 ⟨n, o, d, l, c⟩).size + (7 + (strB (Lib.itoa l)).size) := by omega
  clear hs1 hs2 hs3 hs4 hn0 hn1 his hor ht1 ht2 hin HP1
  generalize hP1 : print1 ⟨n, o, d, l, c⟩ = T1 at *
  generalize hP2 : print2 ⟨n, o, d, l, c⟩ = T2 at *
  generalize hP3 : print3 ⟨n, o, d, l, c⟩ = T3 at *
  generalize hP4 : printB ⟨n, o, d, l, c⟩ = T4 at *
  generalize strB (Lib.itoa l) = TI at *
  replace hP1 := hid hP1
  replace hP2 := hid hP2
  replace hP3 := hid hP3
  replace hP4 := hid hP4
  have HC := hid hc
  clear hc
  go_enter Tryd.func10, Tryd.ntmps10
  go_wp2_with fail
  refine (HND.out 0 _ ⟨by omega, by omega⟩ (Grow.alloc w (.cells #[.int .i64 ak, .slice ap an ac, .string af, .string as_, .int .i64 ax, .string o, .bool d, .int .i64 l, .bool c] 26))).mono ?_
  rintro e w1 ⟨rfl, g1⟩
  have G1 := hid ((Grow.alloc w (.cells #[.int .i64 ak, .slice ap an ac, .string af, .string as_, .int .i64 ax, .string o, .bool d, .int .i64 l, .bool c] 26)).trans g1)
  have hB1 := hid (g1.heap (heap_new w (.cells #[.int .i64 ak, .slice ap an ac, .string af, .string as_, .int .i64 ax, .string o, .bool d, .int .i64 l, .bool c] 26)))
  have hz1 := heap_lt hB1.out
  clear g1 HND
  generalize strB (nodeT 0 n) = T0 at *
  generalize w.heap.size = H at *
  have q0 : w1.cell? ⟨H, 0, none⟩ = some (.int .i64 ak) := by rw [heap_cell hB1.out]; rfl
  have q1 : w1.cell? ⟨H, 1, none⟩ = some (.slice ap an ac) := by rw [heap_cell hB1.out]; rfl
  have q2 : w1.cell? ⟨H, 2, none⟩ = some (.string af) := by rw [heap_cell hB1.out]; rfl
  have q3 : w1.cell? ⟨H, 3, none⟩ = some (.string as_) := by rw [heap_cell hB1.out]; rfl
  have q4 : w1.cell? ⟨H, 4, none⟩ = some (.int .i64 ax) := by rw [heap_cell hB1.out]; rfl
  have q5 : w1.cell? ⟨H, 5, none⟩ = some (.string o) := by rw [heap_cell hB1.out]; rfl
  have q6 : w1.cell? ⟨H, 6, none⟩ = some (.bool d) := by rw [heap_cell hB1.out]; rfl
  have q7 : w1.cell? ⟨H, 7, none⟩ = some (.int .i64 l) := by rw [heap_cell hB1.out]; rfl
  have q8 : w1.cell? ⟨H, 8, none⟩ = some (.bool c) := by rw [heap_cell hB1.out]; rfl

  go_upto_if 12 with fail
  go_cut [4] from 5 (fun s wx => s = .string T1 ∧ wx = w1)
  case first =>
    cases c
    all_goals
      go_wp2_with fail
      go_meet
    case rel => exact ⟨by rw [e1.out]; rfl, rfl⟩
    case rel => exact ⟨by rw [e1.out]; rfl, rfl⟩
  case rest =>
  obtain ⟨rfl, rfl⟩ := hcut
  go_upto_if 17 with fail
  go_cut [4] from 5 (fun s wx => s = .string T2 ∧ wx = wc)
  case first =>
    cases hbe : o.toList.isEmpty with
    | true =>
      have hr := hid (e2.out.trans (if_pos (toList_injQ (by rw [List.isEmpty_iff.1 hbe, ByteArray.toList_eq]))))
      clear hbe
      go_wp2_with fail
      go_meet
      case rel => exact ⟨by rw [hr.out], rfl⟩
    | false =>
      have hr := hid (e2.out.trans (if_neg (fun e => by rw [e, ByteArray.toList_eq] at hbe; cases hbe)))
      clear hbe
      go_wp2_with fail
      go_meet
      case rel => exact ⟨by rw [hr.out], rfl⟩
  case rest =>
  obtain ⟨rfl, rfl⟩ := hcut
  go_upto_if 24 with fail
  go_cut [4] from 5 (fun s wx => s = .string T3 ∧ wx = wc)
  case first =>
    cases d
    all_goals
      go_wp2_with fail
      go_meet
    case rel => exact ⟨by rw [e3.out]; rfl, rfl⟩
    case rel => exact ⟨by rw [e3.out]; rfl, rfl⟩
  case rest =>
  obtain ⟨rfl, rfl⟩ := hcut
  go_upto_if 29 with fail
  go_cut [4] from 5 (fun s wx => s = .string T4 ∧ Grow wc wx)
  case first =>
    by_cases hl : 0 ≤ l
    · have hr := hid (e4.out.trans (if_pos hl))
      have hlb : decide (0 ≤ l) = true := by simpa using hl
      go_wp2_with fail
      refine (HIT.out _ G1.out).mono ?_
      rintro e w2 ⟨rfl, g2⟩
      go_wp2_with fail
      go_meet
      case rel => exact ⟨by rw [hr.out], g2⟩
    · have hr := hid (e4.out.trans (if_neg hl))
      have hlb : decide (0 ≤ l) = false := by simpa using hl
      go_wp2_with fail
      go_meet
      case rel => exact ⟨by rw [hr.out], Grow.refl _⟩
  case rest =>
  obtain ⟨rfl, hgc⟩ := hcut
  have hB1' := hB1
  have G1' := G1
  go_wp2_with fail
  refine (HPA.out _).mono ?_
  rintro e w5 ⟨v, rfl, ⟨c0, c1, c2, c3, c4, rfl, hpin⟩, g5⟩
  have hPP := fun b h => hP4.out ▸ HPP.out b h
  generalize parseP T4.data.toList = r at *
  obtain ⟨⟨rn, ro, rd, rl, rc⟩, rat, re⟩ := r
  simp only at hpin hPP ⊢
  obtain ⟨bk, bp, bn, bc, bf, bs, bx, e⟩ := NodeR.In.value hpin
  simp only [Value.agg.injEq, Array.mk.injEq, List.cons.injEq, and_true] at e
  obtain ⟨rfl, rfl, rfl, rfl, rfl⟩ := e
  have hfit := HPF.out.1
  simp only at hfit
  have G5 := hid ((G1.out.trans hgc).trans g5)
  have hB5 := hid (g5.heap (hgc.heap hB1.out))
  have hz5 := heap_lt hB5.out
  have CS := hid (fun (w6 : World) (g : Grow w5 w6) => Same_c rn.wt rn n _ S _ _ w6 (Nat.le_refl _) hfit (NodeR.In.grow g hpin) (NodeR.In.grow (G5.out.trans g) HIN.out))
  have HOK := hid (show ∀ b, (decide (re = 0) && sameN rn n && decide (ro = o) && decide (rd = d) && decide (rc = c) && decide (rl = maxI l)) = b → printP ⟨n, o, d, l, c⟩ = if b = true then (T4, 0) else (⟨#[]⟩, 1) from fun b h => by
    rw [← hP4.out]
    exact hPP b h)
  have HMX := hid (imax_maxI l)
  clear g5 hgc hpin hPP hfit
  have q0 : w5.cell? ⟨H, 0, none⟩ = some (.int .i64 ak) := by rw [heap_cell hB5.out]; rfl
  have q1 : w5.cell? ⟨H, 1, none⟩ = some (.slice ap an ac) := by rw [heap_cell hB5.out]; rfl
  have q2 : w5.cell? ⟨H, 2, none⟩ = some (.string af) := by rw [heap_cell hB5.out]; rfl
  have q3 : w5.cell? ⟨H, 3, none⟩ = some (.string as_) := by rw [heap_cell hB5.out]; rfl
  have q4 : w5.cell? ⟨H, 4, none⟩ = some (.int .i64 ax) := by rw [heap_cell hB5.out]; rfl
  have q5 : w5.cell? ⟨H, 5, none⟩ = some (.string o) := by rw [heap_cell hB5.out]; rfl
  have q6 : w5.cell? ⟨H, 6, none⟩ = some (.bool d) := by rw [heap_cell hB5.out]; rfl
  have q7 : w5.cell? ⟨H, 7, none⟩ = some (.int .i64 l) := by rw [heap_cell hB5.out]; rfl
  have q8 : w5.cell? ⟨H, 8, none⟩ = some (.bool c) := by rw [heap_cell hB5.out]; rfl
  have GA := hid (Grow.alloc w5 (.cells #[.int .i64 bk, .slice bp bn bc, .string bf, .string bs, .int .i64 bx, .string ro, .bool rd, .int .i64 rl, .bool rc] 26))
  by_cases he : re = 0
  rotate_left
  · have hr := hid (HOK.out false (by simp [he]))
    have hd1 : ((re : Int) != 0) = true := by simp; omega
    clear he
    go_wp2_with fail
    go_ret2
    exact ⟨by rw [hr.out]; rfl, G5.out.trans GA.out⟩
  subst he
  go_wp2_with fail
  refine (CS.out _ GA.out).mono ?_
  rintro e w6 ⟨rfl, g6⟩
  have G6 := hid ((G5.out.trans GA.out).trans g6)
  have hB6 := hid ((GA.out.trans g6).heap hB5.out)
  have hC6 := hid (g6.heap (heap_new w5 (.cells #[.int .i64 bk, .slice bp bn bc, .string bf, .string bs, .int .i64 bx, .string ro, .bool rd, .int .i64 rl, .bool rc] 26)))
  clear g6 CS q0 q1 q2 q3 q4 q5 q6 q7 q8
  have q5 : w6.cell? ⟨H, 5, none⟩ = some (.string o) := by rw [heap_cell hB6.out]; rfl
  have q6 : w6.cell? ⟨H, 6, none⟩ = some (.bool d) := by rw [heap_cell hB6.out]; rfl
  have q7 : w6.cell? ⟨H, 7, none⟩ = some (.int .i64 l) := by rw [heap_cell hB6.out]; rfl
  have q8 : w6.cell? ⟨H, 8, none⟩ = some (.bool c) := by rw [heap_cell hB6.out]; rfl
  have p5 : w6.cell? ⟨w5.heap.size, 5, none⟩ = some (.string ro) := by rw [heap_cell hC6.out]; rfl
  have p6 : w6.cell? ⟨w5.heap.size, 6, none⟩ = some (.bool rd) := by rw [heap_cell hC6.out]; rfl
  have p7 : w6.cell? ⟨w5.heap.size, 7, none⟩ = some (.int .i64 rl) := by rw [heap_cell hC6.out]; rfl
  have p8 : w6.cell? ⟨w5.heap.size, 8, none⟩ = some (.bool rc) := by rw [heap_cell hC6.out]; rfl
  generalize w5.heap.size = K at *
  cases hn : sameN rn n with
  | false =>
    have hr := hid (HOK.out false (by simp [hn]))
    clear hn
    go_wp2_with fail
    go_ret2
    exact ⟨by rw [hr.out]; rfl, G6.out⟩
  | true =>
    by_cases ho : ro = o
    rotate_left
    · have hr := hid (HOK.out false (by simp [ho]))
      have hd1 := str_neQ ho
      have hd2 : ¬ro.toList = o.toList := fun e => ho (toList_injQ e)
      clear hn
      go_wp2_with fail
      go_ret2
      exact ⟨by rw [hr.out]; rfl, G6.out⟩
    subst ho
    by_cases hd : rd = d
    rotate_left
    · have hr := hid (HOK.out false (by simp [hd]))
      clear hn
      cases rd <;> cases d <;> first | (exact absurd rfl hd) | (
        clear hd
        go_wp2_with fail
        go_ret2
        exact ⟨by rw [hr.out]; rfl, G6.out⟩)
    subst hd
    by_cases hcc : rc = c
    rotate_left
    · have hr := hid (HOK.out false (by simp [hcc]))
      clear hn
      cases rd <;> cases rc <;> cases c <;> first | (exact absurd rfl hcc) | (
        clear hcc
        go_wp2_with fail
        go_ret2
        exact ⟨by rw [hr.out]; rfl, G6.out⟩)
    subst hcc
    by_cases hl : rl = maxI l
    · have hr := hid (HOK.out true (by simp [hn, hl]))
      have hd1 : (rl != imax (-1) l) = false := by rw [HMX.out, hl]; simp
      clear hn hl
      cases rd <;> cases rc <;> (
        go_wp2_with fail
        go_ret2
        exact ⟨by rw [hr.out]; rfl, G6.out⟩)
    · have hr := hid (HOK.out false (by simp [hl]))
      have hd1 : (rl != imax (-1) l) = true := by rw [HMX.out]; simpa using hl
      clear hn hl
      cases rd <;> cases rc <;> (
        go_wp2_with fail
        go_ret2
        exact ⟨by rw [hr.out]; rfl, G6.out⟩)
end Go.Proofs.YteilkcdbdpkbfaaDoor
