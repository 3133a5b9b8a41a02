/- A query is read. -/
import Derived.Test.YteilkcdbdpkbfaaDoorQNot
namespace Go.Proofs.YteilkcdbdpkbfaaDoor
open Go.RowKit
set_option linter.unusedVariables false
set_option linter.unusedSimpArgs false
attribute [local go_sem ↓ high] setCell_twice run_tok1 run_tok2
abbrev QueryZ : Obj := .cells #[.int .i64 0, .slice none 0 0, .string ⟨#[]⟩, .string ⟨#[]⟩, .int .i64 0, .string ⟨#[]⟩, .bool false, .int .i64 0, .bool false] 26
/-- The value is this query. -/
def QueryR.In (S : Nat → Prop) (w : World) (q : QueryR) (v : Value) : Prop := ∃ c0 c1 c2 c3 c4, v = .agg #[c0, c1, c2, c3, c4, .string q.order, .bool q.down, .int .i64 q.limit, .bool q.count] ∧ q.whr.In S w (.agg #[c0, c1, c2, c3, c4])
/-- A query that is written into a block of the call's own. -/
theorem store9 {w w2 : World} {rb fin deep rs : Nat} {L : List Tok} {t : TypeId} (g : w.grownBy w2 (some rb)) (r : RdAt w2 rb fin deep L) {a0 a1 a2 a3 a4 a5 a6 a7 a8 : Value} (hR : w2.heap[rs]? = some (.cells #[a0, a1, a2, a3, a4, a5, a6, a7, a8] t)) (hrs : w.heap.size ≤ rs) (hne : rb < rs) (c0 c1 c2 c3 c4 c5 c6 c7 c8 : Value) {n : NodeR} {B : Nat} {v : Value} {lo : Nat} (hn : n.In (fun b => B + 1 ≤ b) w2 v) (hlo : lo ≤ rs ∧ rs ≤ B) :
    w.grownBy (((((((((w2.setCell ⟨rs, 0, none⟩ c0).setCell ⟨rs, 1, none⟩ c1).setCell ⟨rs, 2, none⟩ c2).setCell ⟨rs, 3, none⟩ c3).setCell ⟨rs, 4, none⟩ c4).setCell ⟨rs, 5, none⟩ c5).setCell ⟨rs, 6, none⟩ c6).setCell ⟨rs, 7, none⟩ c7).setCell ⟨rs, 8, none⟩ c8) (some rb) ∧
    (((((((((w2.setCell ⟨rs, 0, none⟩ c0).setCell ⟨rs, 1, none⟩ c1).setCell ⟨rs, 2, none⟩ c2).setCell ⟨rs, 3, none⟩ c3).setCell ⟨rs, 4, none⟩ c4).setCell ⟨rs, 5, none⟩ c5).setCell ⟨rs, 6, none⟩ c6).setCell ⟨rs, 7, none⟩ c7).setCell ⟨rs, 8, none⟩ c8).heap[rs]? = some (.cells #[c0, c1, c2, c3, c4, c5, c6, c7, c8] t) ∧
    RdAt (((((((((w2.setCell ⟨rs, 0, none⟩ c0).setCell ⟨rs, 1, none⟩ c1).setCell ⟨rs, 2, none⟩ c2).setCell ⟨rs, 3, none⟩ c3).setCell ⟨rs, 4, none⟩ c4).setCell ⟨rs, 5, none⟩ c5).setCell ⟨rs, 6, none⟩ c6).setCell ⟨rs, 7, none⟩ c7).setCell ⟨rs, 8, none⟩ c8) rb fin deep L ∧
    n.In (fun b => lo ≤ b) (((((((((w2.setCell ⟨rs, 0, none⟩ c0).setCell ⟨rs, 1, none⟩ c1).setCell ⟨rs, 2, none⟩ c2).setCell ⟨rs, 3, none⟩ c3).setCell ⟨rs, 4, none⟩ c4).setCell ⟨rs, 5, none⟩ c5).setCell ⟨rs, 6, none⟩ c6).setCell ⟨rs, 7, none⟩ c7).setCell ⟨rs, 8, none⟩ c8) v := by
  refine ⟨?_, ?_, ?_, ?_⟩
  · refine grownBy_setNew ?_ hrs 8 _
    refine grownBy_setNew ?_ hrs 7 _
    refine grownBy_setNew ?_ hrs 6 _
    refine grownBy_setNew ?_ hrs 5 _
    refine grownBy_setNew ?_ hrs 4 _
    refine grownBy_setNew ?_ hrs 3 _
    refine grownBy_setNew ?_ hrs 2 _
    refine grownBy_setNew ?_ hrs 1 _
    exact grownBy_setNew g hrs 0 _
  · have h0 := heap_set hR 0 c0
    have h1 := heap_set (cs := #[c0, a1, a2, a3, a4, a5, a6, a7, a8]) h0 1 c1
    have h2 := heap_set (cs := #[c0, c1, a2, a3, a4, a5, a6, a7, a8]) h1 2 c2
    have h3 := heap_set (cs := #[c0, c1, c2, a3, a4, a5, a6, a7, a8]) h2 3 c3
    have h4 := heap_set (cs := #[c0, c1, c2, c3, a4, a5, a6, a7, a8]) h3 4 c4
    have h5 := heap_set (cs := #[c0, c1, c2, c3, c4, a5, a6, a7, a8]) h4 5 c5
    have h6 := heap_set (cs := #[c0, c1, c2, c3, c4, c5, a6, a7, a8]) h5 6 c6
    have h7 := heap_set (cs := #[c0, c1, c2, c3, c4, c5, c6, a7, a8]) h6 7 c7
    have h8 := heap_set (cs := #[c0, c1, c2, c3, c4, c5, c6, c7, a8]) h7 8 c8
    exact h8
  · exact ((((((((r.setB hne 0 _).setB hne 1 _).setB hne 2 _).setB hne 3 _).setB hne 4 _).setB hne 5 _).setB hne 6 _).setB hne 7 _).setB hne 8 _
  · have hg : w2.grownBy (((((((((w2.setCell ⟨rs, 0, none⟩ c0).setCell ⟨rs, 1, none⟩ c1).setCell ⟨rs, 2, none⟩ c2).setCell ⟨rs, 3, none⟩ c3).setCell ⟨rs, 4, none⟩ c4).setCell ⟨rs, 5, none⟩ c5).setCell ⟨rs, 6, none⟩ c6).setCell ⟨rs, 7, none⟩ c7).setCell ⟨rs, 8, none⟩ c8) (some rs) :=
      Lib.grownBy_setB (Lib.grownBy_setB (Lib.grownBy_setB (Lib.grownBy_setB (Lib.grownBy_setB (Lib.grownBy_setB (Lib.grownBy_setB (Lib.grownBy_setB (Lib.grownBy_setB (World.grownBy.refl w2 _) 0 _) 1 _) 2 _) 3 _) 4 _) 5 _) 6 _) 7 _) 8 _
    exact NodeR.In.kept hg.size (fun b _ hb => by have : B + 1 ≤ b := hb; show lo ≤ b; omega) (fun b o v _ hb hc => hg.cell hc (by have : B + 1 ≤ b := hb; simp; omega)) n v hn
theorem store5q {w w2 : World} {rb fin deep rs : Nat} {L : List Tok} {t : TypeId} (g : w.grownBy w2 (some rb)) (r : RdAt w2 rb fin deep L) {a0 a1 a2 a3 a4 a5 a6 a7 a8 : Value} (hR : w2.heap[rs]? = some (.cells #[a0, a1, a2, a3, a4, a5, a6, a7, a8] t)) (hrs : w.heap.size ≤ rs) (hne : rb < rs) (c0 c1 c2 c3 c4 : Value) {n : NodeR} {v : Value} (hn : n.In (fun b => rs + 1 ≤ b) w2 v) :
    w.grownBy (((((w2.setCell ⟨rs, 0, none⟩ c0).setCell ⟨rs, 1, none⟩ c1).setCell ⟨rs, 2, none⟩ c2).setCell ⟨rs, 3, none⟩ c3).setCell ⟨rs, 4, none⟩ c4) (some rb) ∧
    (((((w2.setCell ⟨rs, 0, none⟩ c0).setCell ⟨rs, 1, none⟩ c1).setCell ⟨rs, 2, none⟩ c2).setCell ⟨rs, 3, none⟩ c3).setCell ⟨rs, 4, none⟩ c4).heap[rs]? = some (.cells #[c0, c1, c2, c3, c4, a5, a6, a7, a8] t) ∧
    RdAt (((((w2.setCell ⟨rs, 0, none⟩ c0).setCell ⟨rs, 1, none⟩ c1).setCell ⟨rs, 2, none⟩ c2).setCell ⟨rs, 3, none⟩ c3).setCell ⟨rs, 4, none⟩ c4) rb fin deep L ∧
    n.In (fun b => rs + 1 ≤ b) (((((w2.setCell ⟨rs, 0, none⟩ c0).setCell ⟨rs, 1, none⟩ c1).setCell ⟨rs, 2, none⟩ c2).setCell ⟨rs, 3, none⟩ c3).setCell ⟨rs, 4, none⟩ c4) v := by
  refine ⟨?_, ?_, ?_, ?_⟩
  · exact grownBy_setNew (grownBy_setNew (grownBy_setNew (grownBy_setNew (grownBy_setNew g hrs 0 _) hrs 1 _) hrs 2 _) hrs 3 _) hrs 4 _
  · exact heap_set (heap_set (heap_set (heap_set (heap_set hR 0 _) 1 _) 2 _) 3 _) 4 _
  · exact ((((r.setB hne 0 _).setB hne 1 _).setB hne 2 _).setB hne 3 _).setB hne 4 _
  · have hg : w2.grownBy (((((w2.setCell ⟨rs, 0, none⟩ c0).setCell ⟨rs, 1, none⟩ c1).setCell ⟨rs, 2, none⟩ c2).setCell ⟨rs, 3, none⟩ c3).setCell ⟨rs, 4, none⟩ c4) (some rs) :=
      Lib.grownBy_setB (Lib.grownBy_setB (Lib.grownBy_setB (Lib.grownBy_setB (Lib.grownBy_setB (World.grownBy.refl w2 _) 0 _) 1 _) 2 _) 3 _) 4 _
    exact NodeR.In.grown (fun b _ hb => by have : rs + 1 ≤ b := hb; simp; omega) hg hn
theorem query_ret {lo rb fin rs : Nat} {w W : World} {r : PR QueryR} {n : NodeR} {o : ByteArray} {d c : Bool} {l : Int} {L : List Tok} {c0 c1 c2 c3 c4 : Value} {tm : Array Value} (ht : tm.getD 2 undef = .pointer (some ⟨rs, 0, none⟩)) (hp : r = .ok ⟨n, o, d, l, c⟩ L)
    (E : w.grownBy W (some rb) ∧ W.heap[rs]? = some (.cells #[c0, c1, c2, c3, c4, .string o, .bool d, .int .i64 l, .bool c] 26) ∧ RdAt W rb fin 0 L ∧ n.In (fun b => lo ≤ b) W (.agg #[c0, c1, c2, c3, c4])) :
    bodyPost Tryd.prog Tryd.f27 (RdPost (fun q v w => q.In (fun b => lo ≤ b) w v) rb fin 0 r w) Exit.ret { tmps := tm, defers := [] } W := by
  subst hp
  exact bodyPost_ret (results_cellK (fn := Tryd.f27) (p := 2) rfl _ _ rs 26 _ (0, 0) _ ht E.2.1 Tryd.underlying26 rfl (by kernel_rfl)) rfl ⟨E.1, _, rfl, ⟨_, _, _, _, _, rfl, E.2.2.2⟩, E.2.2.1⟩
set_option maxRecDepth 100000 in
set_option maxHeartbeats 8000000 in
theorem query_c (lo rb fin : Nat) (L : List Tok) (w : World) (h : RdAt w rb fin 0 L) (hr : rb < lo) (hlo : lo ≤ w.heap.size) :
    Calls Tryd.prog 27 #[.pointer (some ⟨rb, 0, none⟩)] w (RdPost (fun q v w => q.In (fun b => lo ≤ b) w v) rb fin 0 (queryP fin L) w) := by
  have hrb : rb < w.heap.size := by omega
  have C1 := hid (skip_c bCount rb fin 0 L (w.alloc QueryZ) (h.grow (Grow.alloc _ _)))
  clear h
  go_enter Tryd.func27, Tryd.ntmps27
  go_wp2_with fail
  refine (C1.out).mono ?_
  rintro e w1 ⟨rfl, r1, g1⟩
  clear C1
  have hs1 : w.heap.size + 1 ≤ w1.heap.size := by have := g1.size; simpa using this
  have hQP := hid (show queryP fin L = (match orP fin 32 (if isT L bCount = true then L.tail else L) with
    | .bad e p => .bad e p
    | .ok n R => match orderP fin R with
      | .bad e p => .bad e p
      | .ok o S => match limitP fin S with
        | .bad e p => .bad e p
        | .ok l T => endP fin ⟨n, o.1, o.2, l, isT L bCount⟩ T) from rfl)
  have Z1 := heapBy g1 (heap_new w QueryZ) (by omega)
  generalize (if isT L bCount = true then L.tail else L) = L0 at *
  generalize isT L bCount = cb at *
  have Z2 := hid (heap_alloc_keep Z1 (.cells #[.int .i64 0, .slice none 0 0, .string ⟨#[]⟩, .string ⟨#[]⟩, .int .i64 0, .string ⟨#[]⟩, .bool false, .int .i64 (-1), .bool cb] 26))
  have Q2 := hid (heap_new w1 (.cells #[.int .i64 0, .slice none 0 0, .string ⟨#[]⟩, .string ⟨#[]⟩, .int .i64 0, .string ⟨#[]⟩, .bool false, .int .i64 (-1), .bool cb] 26))
  have G2 := hid (Lib.grownBy_below (Lib.grownBy_trans ((Grow.alloc w QueryZ).by_ (some rb)) g1) (Grow.alloc w1 (.cells #[.int .i64 0, .slice none 0 0, .string ⟨#[]⟩, .string ⟨#[]⟩, .int .i64 0, .string ⟨#[]⟩, .bool false, .int .i64 (-1), .bool cb] 26)))
  have r2 := hid (r1.grow (Grow.alloc w1 (.cells #[.int .i64 0, .slice none 0 0, .string ⟨#[]⟩, .string ⟨#[]⟩, .int .i64 0, .string ⟨#[]⟩, .bool false, .int .i64 (-1), .bool cb] 26)))
  clear g1 r1 Z1
  go_wp2_with fail
  generalize w1.alloc (.cells #[.int .i64 0, .slice none 0 0, .string ⟨#[]⟩, .string ⟨#[]⟩, .int .i64 0, .string ⟨#[]⟩, .bool false, .int .i64 (-1), .bool cb] 26) = w2 at *
  have hq2 : w1.heap.size < w2.heap.size := heap_lt Q2.out
  generalize w1.heap.size = qb at *
  generalize hrs1 : w.heap.size = rs at *
  have hws : w.heap.size ≤ rs := Nat.le_of_eq hrs1
  clear hrs1
  have hrb1 : rb < rs := hrb
  refine (cond_c rb fin (qb + 1) L0 w2 r2.out (by omega) (by omega)).mono ?_
  intro e w3 hpost
  generalize hpart : orP fin 32 L0 = res at *
  cases res with
  | bad k p =>
    obtain ⟨g3, rfl, r3⟩ := hpost
    have HC := hid (show queryP fin L = .bad k p from hQP.out)
    have FIN := hid (show RdPost (α := QueryR) (fun q v w => q.In (fun b => lo ≤ b) w v) rb fin 0 (.bad k p) w (Fault k p) w3 from ⟨Lib.grownBy_trans G2.out g3, rfl, r3⟩)
    clear g3 r3 hpart hQP
    unfold Fault
    go_wp2_with fail
    exact ⟨rfl, by rw [HC.out]; exact FIN.out⟩
  | ok n R =>
    obtain ⟨g3, v, rfl, hv, r3⟩ := hpost
    obtain ⟨nk, np, nl, nc, nf, ns, nx, rfl⟩ := NodeR.In.value hv
    have hs3 := g3.size
    have Q3 := heapBy g3 Q2.out (by omega)
    have Z3 := heapBy g3 Z2.out (by omega)
    have l0 : w3.cell? ⟨qb, 0, none⟩ = some (.int .i64 0) := by rw [heap_cell Q3]; rfl
    have l1 : w3.cell? ⟨qb, 1, none⟩ = some (.slice none 0 0) := by rw [heap_cell Q3]; rfl
    have l2 : w3.cell? ⟨qb, 2, none⟩ = some (.string ⟨#[]⟩) := by rw [heap_cell Q3]; rfl
    have l3 : w3.cell? ⟨qb, 3, none⟩ = some (.string ⟨#[]⟩) := by rw [heap_cell Q3]; rfl
    have l4 : w3.cell? ⟨qb, 4, none⟩ = some (.int .i64 0) := by rw [heap_cell Q3]; rfl
    have m0 : w3.frozen? ⟨qb, 0, none⟩ = false := heap_frozen Q3 0 (by omega)
    have m1 : w3.frozen? ⟨qb, 1, none⟩ = false := heap_frozen Q3 1 (by omega)
    have m2 : w3.frozen? ⟨qb, 2, none⟩ = false := heap_frozen Q3 2 (by omega)
    have m3 : w3.frozen? ⟨qb, 3, none⟩ = false := heap_frozen Q3 3 (by omega)
    have m4 : w3.frozen? ⟨qb, 4, none⟩ = false := heap_frozen Q3 4 (by omega)
    have E4 := store5q (Lib.grownBy_trans G2.out g3) r3 Q3 (by omega) (by omega) (.int .i64 nk) (.slice np nl nc) (.string nf) (.string ns) (.int .i64 nx) hv
    have Z4 := keep5 Z3 (show rs ≠ qb by omega) (.int .i64 nk) (.slice np nl nc) (.string nf) (.string ns) (.int .i64 nx)
    have s4 : qb < (((((w3.setCell ⟨qb, 0, none⟩ (.int .i64 nk)).setCell ⟨qb, 1, none⟩ (.slice np nl nc)).setCell ⟨qb, 2, none⟩ (.string nf)).setCell ⟨qb, 3, none⟩ (.string ns)).setCell ⟨qb, 4, none⟩ (.int .i64 nx)).heap.size := by simp; omega
    replace E4 := hid E4
    replace Z4 := hid Z4
    clear g3 r3 Q3 Z3 hv Q2 Z2 r2 G2
    have hpart := hid hpart
    go_wp2_with fail
    generalize (((((w3.setCell ⟨qb, 0, none⟩ (.int .i64 nk)).setCell ⟨qb, 1, none⟩ (.slice np nl nc)).setCell ⟨qb, 2, none⟩ (.string nf)).setCell ⟨qb, 3, none⟩ (.string ns)).setCell ⟨qb, 4, none⟩ (.int .i64 nx)) = w4 at *
    have Gw4 := hid E4.out.1
    have Qw4 := hid E4.out.2.1
    have rw4 := hid E4.out.2.2.1
    have Nw4 := hid E4.out.2.2.2
    have Zw4 := Z4
    clear E4 Z4 hpart hs3 hq2
    by_cases hor : isT R bOrder = true
    · have hQP2 := hid (show queryP fin L = (match (match R.tail with | [] => failP fin 41 [] | t :: L1 => if fieldB t.str = true then .ok (t.str, isT L1 bDown) (if isT L1 bDown then L1.tail else L1) else failP fin 41 (t :: L1) : PR (ByteArray × Bool)) with
        | .bad e p => .bad e p
        | .ok o S => match limitP fin S with
          | .bad e p => .bad e p
          | .ok l T => endP fin ⟨n, o.1, o.2, l, cb⟩ T) from by
        have q := hQP.out
        simp only [orderP, hor, if_true] at q
        exact q)
      clear hQP
      refine (skipYes_c bOrder rb fin 0 R w4 rw4.out hor).mono ?_
      rintro e w5 ⟨rfl, r5, g5⟩
      have hs5 := g5.size
      have G5 := hid (Lib.grownBy_trans Gw4.out g5)
      have Q5 := hid (heapBy g5 Qw4.out (by omega))
      have Z5 := hid (heapBy g5 Zw4.out (by omega))
      have N5 := hid (NodeR.In.grown (fun b _ hb => by have : qb + 1 ≤ b := hb; simp; omega) g5 Nw4.out)
      have r55 := hid r5
      obtain ⟨p5, cap5, hh5, _, _, ht5, hw5⟩ := r5
      have c5 : w5.cell? ⟨rb, 0, none⟩ = some (.slice p5 R.tail.length cap5) := by rw [heap_cell hh5]; rfl
      cases htl5 : R.tail with
      | nil =>
        rw [htl5] at c5 r55
        have HC := hid (show queryP fin L = failP fin 41 [] from by rw [hQP2.out, htl5]; rfl)
        clear hh5 ht5 g5 hor htl5 hw5
        go_wp2_with fail
        refine (failIs_c 41 rb fin 0 [] w5 r55.out).mono ?_
        rintro e wF ⟨rfl, rfl⟩
        unfold Fault
        go_wp2_with fail
        exact ⟨rfl, by rw [HC.out]; exact ⟨G5.out, rfl, r55.out.any⟩⟩
      | cons t L1 =>
        rw [htl5] at c5 r55 ht5 hw5
        obtain ⟨b5, o5, rfl, hb5, hne5, ho5, ⟨t0, t1, t2, t3⟩, -⟩ := ht5 (by simp)
        have hl5 : (0 : Int) < ((t :: L1).length : Int) := by simp only [List.length_cons]; omega
        have hl50 : (((t :: L1).length : Int) == 0) = false := by simp; omega
        have hok5 := hid (hw5 t (by simp))
        have hQP3 := hid (show queryP fin L = (match (if fieldB t.str = true then .ok (t.str, isT L1 bDown) (if isT L1 bDown then L1.tail else L1) else failP fin 41 (t :: L1) : PR (ByteArray × Bool)) with
          | .bad e p => .bad e p
          | .ok o S => match limitP fin S with
            | .bad e p => .bad e p
            | .ok l T => endP fin ⟨n, o.1, o.2, l, cb⟩ T) from by rw [hQP2.out, htl5])
        have HF := hid (field_c t.str w5)
        clear hh5 ht5 g5 hor htl5 hw5 ho5 hQP2
        generalize (t :: L1).length = n5 at *
        go_wp2_with fail
        refine (HF.out).mono ?_
        rintro e w6 ⟨rfl, g6⟩
        have hs6 := g6.size
        have G6 := hid (Lib.grownBy_below G5.out g6)
        have Q6 := hid (g6.heap Q5.out)
        have Z6 := hid (g6.heap Z5.out)
        have N6 := hid (NodeR.In.grow g6 N5.out)
        have r6 := hid (r55.out.grow g6)
        clear g6 c5 t0 t1 t2 t3 HF
        by_cases hf : fieldB t.str = true
        · rw [hf]
          have hQP4 := hid (show queryP fin L = (match limitP fin (if isT L1 bDown = true then L1.tail else L1) with
            | .bad e p => .bad e p
            | .ok l T => endP fin ⟨n, t.str, isT L1 bDown, l, cb⟩ T) from by
            have q := hQP3.out
            rw [if_pos hf] at q
            exact q)
          have hk1 := hid (field_word hok5.out hf)
          clear hf hQP3
          go_wp2_with fail
          refine (takeOk_c hk1.out rb fin 0 w6 r6.out).mono ?_
          rintro e w7 ⟨g7, rfl, r7⟩
          have hs7 := g7.size
          have Q7 := heapBy g7 Q6.out (by omega)
          have Z7 := heapBy g7 Z6.out (by omega)
          have l5 : w7.cell? ⟨qb, 5, none⟩ = some (.string ⟨#[]⟩) := by rw [heap_cell Q7]; rfl
          have m5 : w7.frozen? ⟨qb, 5, none⟩ = false := heap_frozen Q7 5 (by omega)
          have Q8 := hid (show (w7.setCell ⟨qb, 5, none⟩ (.string t.str)).heap[qb]? = some (.cells #[.int .i64 nk, .slice np nl nc, .string nf, .string ns, .int .i64 nx, .string t.str, .bool false, .int .i64 (-1), .bool cb] 26) from heap_set Q7 5 (.string t.str))
          have Z8 := hid (heap_keep Z7 ⟨qb, 5, none⟩ (.string t.str) (by simp; omega))
          have G8 := hid (grownBy_setNew (Lib.grownBy_trans G6.out g7) (g := qb) (by omega) 5 (.string t.str))
          have r8 := hid (r7.setB (g := qb) (by omega) 5 (.string t.str))
          have N8 := hid (NodeR.In.grown (fun b _ hb => by have : qb + 1 ≤ b := hb; simp; omega) (Lib.grownBy_setB (World.grownBy.refl w7 (some qb)) 5 (.string t.str)) (NodeR.In.grown (fun b _ hb => by have : qb + 1 ≤ b := hb; simp; omega) g7 N6.out))
          have s8 : (w7.setCell ⟨qb, 5, none⟩ (.string t.str)).heap.size = w7.heap.size := by simp
          replace s8 := hid s8
          clear g7 r7 Q7 Z7 Q6 Z6 N6 r6 G6
          go_wp2_with fail
          have hs8 : qb < (w7.setCell ⟨qb, 5, none⟩ (.string t.str)).heap.size := by rw [s8.out]; omega
          generalize w7.setCell ⟨qb, 5, none⟩ (.string t.str) = w8 at *
          clear l5 m5 s8
          refine (skip_c bDown rb fin 0 L1 w8 r8.out).mono ?_
          rintro e w9 ⟨rfl, r9, g9⟩
          generalize (if isT L1 bDown = true then L1.tail else L1) = Rd at *
          generalize isT L1 bDown = dn at *
          have hs9 := g9.size
          have Q9 := heapBy g9 Q8.out (by omega)
          have Z9 := heapBy g9 Z8.out (by omega)
          have l6 : w9.cell? ⟨qb, 6, none⟩ = some (.bool false) := by rw [heap_cell Q9]; rfl
          have m6 : w9.frozen? ⟨qb, 6, none⟩ = false := heap_frozen Q9 6 (by omega)
          have Qwd := hid (show (w9.setCell ⟨qb, 6, none⟩ (.bool dn)).heap[qb]? = some (.cells #[.int .i64 nk, .slice np nl nc, .string nf, .string ns, .int .i64 nx, .string t.str, .bool dn, .int .i64 (-1), .bool cb] 26) from heap_set Q9 6 (.bool dn))
          have Zwd := hid (heap_keep Z9 ⟨qb, 6, none⟩ (.bool dn) (by simp; omega))
          have Gwd := hid (grownBy_setNew (Lib.grownBy_trans G8.out g9) (g := qb) (by omega) 6 (.bool dn))
          have rwd := hid (r9.setB (g := qb) (by omega) 6 (.bool dn))
          have Nwd := hid (NodeR.In.grown (fun b _ hb => by have : qb + 1 ≤ b := hb; simp; omega) (Lib.grownBy_setB (World.grownBy.refl w9 (some qb)) 6 (.bool dn)) (NodeR.In.grown (fun b _ hb => by have : qb + 1 ≤ b := hb; simp; omega) g9 N8.out))
          have hs10 : qb < (w9.setCell ⟨qb, 6, none⟩ (.bool dn)).heap.size := by simp; omega
          clear g9 r9 Q9 Z9 Q8 Z8 N8 r8 G8
          go_wp2_with fail
          generalize w9.setCell ⟨qb, 6, none⟩ (.bool dn) = wd at *
          clear l6 m6
          have hL := hid (hQP4.out)
          by_cases hlim : isT (Rd) bLimit = true
          · refine (skipYes_c bLimit rb fin 0 (Rd) wd rwd.out hlim).mono ?_
            rintro e wa ⟨rfl, ra, ga⟩
            have hsa := ga.size
            have Ga := hid (Lib.grownBy_trans Gwd.out ga)
            have Qa := hid (heapBy ga Qwd.out (by omega))
            have Za := hid (heapBy ga Zwd.out (by omega))
            have Na := hid (NodeR.In.grown (fun b _ hb => by have : qb + 1 ≤ b := hb; simp; omega) ga Nwd.out)
            have raa := hid ra
            obtain ⟨pa, capa, hha, _, _, hta, hwa⟩ := ra
            have ca : wa.cell? ⟨rb, 0, none⟩ = some (.slice pa (Rd).tail.length capa) := by rw [heap_cell hha]; rfl
            cases htl : (Rd).tail with
            | nil =>
              rw [htl] at ca raa
              have HC := hid (show queryP fin L = failP fin 41 [] from by rw [hL.out]; simp [limitP, hlim, htl, failP])
              clear hha hta ga hlim htl hwa
              go_wp2_with fail
              refine (takeBad_c (L := []) (k := 2) (fun t R e => by cases e) rb fin 0 wa raa.out).mono ?_
              rintro e wF ⟨gF, rfl, rF⟩
              have FIN := hid (show RdPost (α := QueryR) (fun q v w => q.In (fun b => lo ≤ b) w v) rb fin 0 (failP fin 41 []) w (Fault (failE 41 []) (failAt fin [])) wF from ⟨Lib.grownBy_trans Ga.out gF, rfl, rF⟩)
              clear gF rF
              unfold Fault
              go_wp2_with fail
              exact ⟨rfl, by rw [HC.out]; exact FIN.out⟩
            | cons v L2 =>
              rw [htl] at ca raa hta hwa
              obtain ⟨ba, oa, rfl, hba, hnea, hoa, ⟨t0, t1, t2, t3⟩, -⟩ := hta (by simp)
              have hla : (0 : Int) < ((v :: L2).length : Int) := by simp only [List.length_cons]; omega
              have hla2 : 0 < (v :: L2).length := by simp
              have hl2 := hid (show queryP fin L = (if v.num < 0 then failP fin 43 (v :: L2) else if v.kind = 2 then endP fin ⟨n, t.str, dn, v.num, cb⟩ L2 else failP fin 41 (v :: L2)) from by
                rw [hL.out]
                simp only [limitP, hlim, htl, if_true]
                by_cases q1 : v.num < 0
                · simp [q1, failP]
                · by_cases q2 : v.kind = 2
                  · simp [q1, q2]
                  · simp [q1, q2, failP])
              have hv1 : -1099511627776 ≤ v.num := (hwa v (by simp)).2.2.2.2.1
              have hv2 : v.num ≤ 1099511627776 := (hwa v (by simp)).2.2.2.2.2.1
              clear hha hta ga hlim htl hwa hoa
              generalize (v :: L2).length = na at *
              by_cases hneg : v.num < 0
              · have HC := hid (show queryP fin L = failP fin 43 (v :: L2) from by rw [hl2.out, if_pos hneg])
                go_wp2_with fail
                refine (failIs_c 43 rb fin 0 (v :: L2) wa raa.out).mono ?_
                rintro e wF ⟨rfl, rfl⟩
                unfold Fault
                go_wp2_with fail
                exact ⟨rfl, by rw [HC.out]; exact ⟨Ga.out, rfl, raa.out.any⟩⟩
              · have hl3 := hid (hl2.out.trans (if_neg hneg))
                have hneg2 : decide (v.num < 0) = false := by simpa using hneg
                go_wp2_with fail
                by_cases hk : v.kind = 2
                · refine (takeOk_c hk rb fin 0 wa raa.out).mono ?_
                  rintro e wb ⟨gb, rfl, rb4⟩
                  have hsb := gb.size
                  have Qb := heapBy gb Qa.out (by omega)
                  have l7 : wb.cell? ⟨qb, 7, none⟩ = some (.int .i64 (-1)) := by rw [heap_cell Qb]; rfl
                  have m7 : wb.frozen? ⟨qb, 7, none⟩ = false := heap_frozen Qb 7 (by omega)
                  have Qc := heap_set Qb 7 (.int .i64 v.num)
                  have Zc := heap_keep (heapBy gb Za.out (by omega)) ⟨qb, 7, none⟩ (.int .i64 v.num) (by simp; omega)
                  have Gc := grownBy_setNew (Lib.grownBy_trans Ga.out gb) (g := qb) (by omega) 7 (.int .i64 v.num)
                  have rc := rb4.setB (g := qb) (by omega) 7 (.int .i64 v.num)
                  have Nc := NodeR.In.grown (fun b _ hb => by have : qb + 1 ≤ b := hb; simp; omega) (Lib.grownBy_setB (World.grownBy.refl wb (some qb)) 7 (.int .i64 v.num)) (NodeR.In.grown (fun b _ hb => by have : qb + 1 ≤ b := hb; simp; omega) gb Na.out)
                  have hE0 := hid (hl3.out.trans (if_pos hk))
                  have Zb := heapBy gb Za.out (by omega)
                  replace Qb := hid Qb
                  replace Zb := hid Zb
                  replace Zc := hid Zc
                  replace Gc := hid Gc
                  replace rc := hid rc
                  replace Nc := hid Nc
                  replace rb4 := hid rb4
                  have n1 : rs ≠ qb := by omega
                  have n2 : rb ≠ qb := by omega
                  clear gb ca t0 t1 t2 t3 hk Qc
                  have hE := hid (hE0.out)
                  have rBB := rb4.out
                  obtain ⟨pE, capE, hhE, _, _, htE, _⟩ := rBB
                  have cE : wb.cell? ⟨rb, 0, none⟩ = some (.slice pE (L2).length capE) := by rw [heap_cell hhE]; rfl
                  cases hrest : (L2) with
                  | nil =>
                    rw [hrest] at cE
                    have HC := hid (show queryP fin L = .ok ⟨n, t.str, dn, v.num, cb⟩ [] from by rw [hE.out, hrest]; rfl)
                    have b0 : wb.cell? ⟨qb, 0, none⟩ = some (.int .i64 nk) := by rw [heap_cell Qb.out]; rfl
                    have b1 : wb.cell? ⟨qb, 1, none⟩ = some (.slice np nl nc) := by rw [heap_cell Qb.out]; rfl
                    have b2 : wb.cell? ⟨qb, 2, none⟩ = some (.string nf) := by rw [heap_cell Qb.out]; rfl
                    have b3 : wb.cell? ⟨qb, 3, none⟩ = some (.string ns) := by rw [heap_cell Qb.out]; rfl
                    have b4 : wb.cell? ⟨qb, 4, none⟩ = some (.int .i64 nx) := by rw [heap_cell Qb.out]; rfl
                    have b5 : wb.cell? ⟨qb, 5, none⟩ = some (.string t.str) := by rw [heap_cell Qb.out]; rfl
                    have b6 : wb.cell? ⟨qb, 6, none⟩ = some (.bool dn) := by rw [heap_cell Qb.out]; rfl
                    have b7 : wb.cell? ⟨qb, 7, none⟩ = some (.int .i64 (-1)) := by rw [heap_cell Qb.out]; rfl
                    have b8 : wb.cell? ⟨qb, 8, none⟩ = some (.bool cb) := by rw [heap_cell Qb.out]; rfl
                    have z0 : wb.cell? ⟨rs, 0, none⟩ = some (.int .i64 0) := by rw [heap_cell Zb.out]; rfl
                    have y0 : wb.frozen? ⟨rs, 0, none⟩ = false := heap_frozen Zb.out 0 (by omega)
                    have z1 : wb.cell? ⟨rs, 1, none⟩ = some (.slice none 0 0) := by rw [heap_cell Zb.out]; rfl
                    have y1 : wb.frozen? ⟨rs, 1, none⟩ = false := heap_frozen Zb.out 1 (by omega)
                    have z2 : wb.cell? ⟨rs, 2, none⟩ = some (.string ⟨#[]⟩) := by rw [heap_cell Zb.out]; rfl
                    have y2 : wb.frozen? ⟨rs, 2, none⟩ = false := heap_frozen Zb.out 2 (by omega)
                    have z3 : wb.cell? ⟨rs, 3, none⟩ = some (.string ⟨#[]⟩) := by rw [heap_cell Zb.out]; rfl
                    have y3 : wb.frozen? ⟨rs, 3, none⟩ = false := heap_frozen Zb.out 3 (by omega)
                    have z4 : wb.cell? ⟨rs, 4, none⟩ = some (.int .i64 0) := by rw [heap_cell Zb.out]; rfl
                    have y4 : wb.frozen? ⟨rs, 4, none⟩ = false := heap_frozen Zb.out 4 (by omega)
                    have z5 : wb.cell? ⟨rs, 5, none⟩ = some (.string ⟨#[]⟩) := by rw [heap_cell Zb.out]; rfl
                    have y5 : wb.frozen? ⟨rs, 5, none⟩ = false := heap_frozen Zb.out 5 (by omega)
                    have z6 : wb.cell? ⟨rs, 6, none⟩ = some (.bool false) := by rw [heap_cell Zb.out]; rfl
                    have y6 : wb.frozen? ⟨rs, 6, none⟩ = false := heap_frozen Zb.out 6 (by omega)
                    have z7 : wb.cell? ⟨rs, 7, none⟩ = some (.int .i64 0) := by rw [heap_cell Zb.out]; rfl
                    have y7 : wb.frozen? ⟨rs, 7, none⟩ = false := heap_frozen Zb.out 7 (by omega)
                    have z8 : wb.cell? ⟨rs, 8, none⟩ = some (.bool false) := by rw [heap_cell Zb.out]; rfl
                    have y8 : wb.frozen? ⟨rs, 8, none⟩ = false := heap_frozen Zb.out 8 (by omega)
                    have E := hid (store9 Gc.out rc.out Zc.out hws hrb1 (.int .i64 nk) (.slice np nl nc) (.string nf) (.string ns) (.int .i64 nx) (.string t.str) (.bool dn) (.int .i64 v.num) (.bool cb) Nc.out (lo := lo) (by omega))
                    rw [hrest] at E
                    replace hrest := hid hrest
                    clear hhE htE
                    go_wp2_with fail
                    have hC1 := HC.out
                    have E1 := E.out
                    with_reducible refine query_ret ?_ hC1 E1
                    rfl
                  | cons tE RE =>
                    rw [hrest] at cE
                    have HC := hid (show queryP fin L = failP fin 41 (tE :: RE) from by rw [hE.out, hrest]; rfl)
                    have hlE : (0 : Int) < ((tE :: RE).length : Int) := by simp only [List.length_cons]; omega
                    have rE := rc
                    rw [hrest] at rE
                    clear hhE htE hrest
                    generalize (tE :: RE).length = nE at *
                    go_wp2_with fail
                    refine (failIs_c 41 rb fin 0 (tE :: RE) _ rE.out).mono ?_
                    rintro e wF ⟨rfl, rfl⟩
                    unfold Fault
                    go_wp2_with fail
                    exact ⟨rfl, by rw [HC.out]; exact ⟨Gc.out, rfl, rE.out.any⟩⟩
                · have HC := hid (show queryP fin L = failP fin 41 (v :: L2) from by rw [hl3.out, if_neg hk])
                  refine (takeBad_c (L := v :: L2) (k := 2) (fun t R e => by cases e; exact hk) rb fin 0 wa raa.out).mono ?_
                  rintro e wF ⟨gF, rfl, rF⟩
                  have FIN := hid (show RdPost (α := QueryR) (fun q v w => q.In (fun b => lo ≤ b) w v) rb fin 0 (failP fin 41 (v :: L2)) w (Fault (failE 41 (v :: L2)) (failAt fin (v :: L2))) wF from ⟨Lib.grownBy_trans Ga.out gF, rfl, rF⟩)
                  clear gF rF hk
                  unfold Fault
                  go_wp2_with fail
                  exact ⟨rfl, by rw [HC.out]; exact FIN.out⟩
          · replace hlim : isT (Rd) bLimit = false := by simpa using hlim
            have hE0 := hid (show queryP fin L = endP fin ⟨n, t.str, dn, -1, cb⟩ (Rd) from by rw [hL.out]; simp [limitP, hlim])
            refine (skipNo_c bLimit rb fin 0 (Rd) wd rwd.out hlim).mono ?_
            rintro e wa ⟨rfl, rfl⟩
            clear hlim
            have hE := hid (hE0.out)
            have rBB := rwd.out
            obtain ⟨pE, capE, hhE, _, _, htE, _⟩ := rBB
            have cE : wd.cell? ⟨rb, 0, none⟩ = some (.slice pE (Rd).length capE) := by rw [heap_cell hhE]; rfl
            cases hrest : (Rd) with
            | nil =>
              rw [hrest] at cE
              have HC := hid (show queryP fin L = .ok ⟨n, t.str, dn, (-1), cb⟩ [] from by rw [hE.out, hrest]; rfl)
              have b0 : wd.cell? ⟨qb, 0, none⟩ = some (.int .i64 nk) := by rw [heap_cell Qwd.out]; rfl
              have b1 : wd.cell? ⟨qb, 1, none⟩ = some (.slice np nl nc) := by rw [heap_cell Qwd.out]; rfl
              have b2 : wd.cell? ⟨qb, 2, none⟩ = some (.string nf) := by rw [heap_cell Qwd.out]; rfl
              have b3 : wd.cell? ⟨qb, 3, none⟩ = some (.string ns) := by rw [heap_cell Qwd.out]; rfl
              have b4 : wd.cell? ⟨qb, 4, none⟩ = some (.int .i64 nx) := by rw [heap_cell Qwd.out]; rfl
              have b5 : wd.cell? ⟨qb, 5, none⟩ = some (.string t.str) := by rw [heap_cell Qwd.out]; rfl
              have b6 : wd.cell? ⟨qb, 6, none⟩ = some (.bool dn) := by rw [heap_cell Qwd.out]; rfl
              have b7 : wd.cell? ⟨qb, 7, none⟩ = some (.int .i64 (-1)) := by rw [heap_cell Qwd.out]; rfl
              have b8 : wd.cell? ⟨qb, 8, none⟩ = some (.bool cb) := by rw [heap_cell Qwd.out]; rfl
              have z0 : wd.cell? ⟨rs, 0, none⟩ = some (.int .i64 0) := by rw [heap_cell Zwd.out]; rfl
              have y0 : wd.frozen? ⟨rs, 0, none⟩ = false := heap_frozen Zwd.out 0 (by omega)
              have z1 : wd.cell? ⟨rs, 1, none⟩ = some (.slice none 0 0) := by rw [heap_cell Zwd.out]; rfl
              have y1 : wd.frozen? ⟨rs, 1, none⟩ = false := heap_frozen Zwd.out 1 (by omega)
              have z2 : wd.cell? ⟨rs, 2, none⟩ = some (.string ⟨#[]⟩) := by rw [heap_cell Zwd.out]; rfl
              have y2 : wd.frozen? ⟨rs, 2, none⟩ = false := heap_frozen Zwd.out 2 (by omega)
              have z3 : wd.cell? ⟨rs, 3, none⟩ = some (.string ⟨#[]⟩) := by rw [heap_cell Zwd.out]; rfl
              have y3 : wd.frozen? ⟨rs, 3, none⟩ = false := heap_frozen Zwd.out 3 (by omega)
              have z4 : wd.cell? ⟨rs, 4, none⟩ = some (.int .i64 0) := by rw [heap_cell Zwd.out]; rfl
              have y4 : wd.frozen? ⟨rs, 4, none⟩ = false := heap_frozen Zwd.out 4 (by omega)
              have z5 : wd.cell? ⟨rs, 5, none⟩ = some (.string ⟨#[]⟩) := by rw [heap_cell Zwd.out]; rfl
              have y5 : wd.frozen? ⟨rs, 5, none⟩ = false := heap_frozen Zwd.out 5 (by omega)
              have z6 : wd.cell? ⟨rs, 6, none⟩ = some (.bool false) := by rw [heap_cell Zwd.out]; rfl
              have y6 : wd.frozen? ⟨rs, 6, none⟩ = false := heap_frozen Zwd.out 6 (by omega)
              have z7 : wd.cell? ⟨rs, 7, none⟩ = some (.int .i64 0) := by rw [heap_cell Zwd.out]; rfl
              have y7 : wd.frozen? ⟨rs, 7, none⟩ = false := heap_frozen Zwd.out 7 (by omega)
              have z8 : wd.cell? ⟨rs, 8, none⟩ = some (.bool false) := by rw [heap_cell Zwd.out]; rfl
              have y8 : wd.frozen? ⟨rs, 8, none⟩ = false := heap_frozen Zwd.out 8 (by omega)
              have E := hid (store9 Gwd.out rwd.out Zwd.out hws hrb1 (.int .i64 nk) (.slice np nl nc) (.string nf) (.string ns) (.int .i64 nx) (.string t.str) (.bool dn) (.int .i64 (-1)) (.bool cb) Nwd.out (lo := lo) (by omega))
              rw [hrest] at E
              replace hrest := hid hrest
              clear hhE htE
              go_wp2_with fail
              have hC1 := HC.out
              have E1 := E.out
              with_reducible refine query_ret ?_ hC1 E1
              rfl
            | cons tE RE =>
              rw [hrest] at cE
              have HC := hid (show queryP fin L = failP fin 41 (tE :: RE) from by rw [hE.out, hrest]; rfl)
              have hlE : (0 : Int) < ((tE :: RE).length : Int) := by simp only [List.length_cons]; omega
              have rE := rwd
              rw [hrest] at rE
              clear hhE htE hrest
              generalize (tE :: RE).length = nE at *
              go_wp2_with fail
              refine (failIs_c 41 rb fin 0 (tE :: RE) _ rE.out).mono ?_
              rintro e wF ⟨rfl, rfl⟩
              unfold Fault
              go_wp2_with fail
              exact ⟨rfl, by rw [HC.out]; exact ⟨Gwd.out, rfl, rE.out.any⟩⟩
        · replace hf : fieldB t.str = false := by simpa using hf
          rw [hf]
          have HC := hid (show queryP fin L = failP fin 41 (t :: L1) from by rw [hQP3.out, hf]; rfl)
          clear hf hQP3
          go_wp2_with fail
          refine (failIs_c 41 rb fin 0 (t :: L1) w6 r6.out).mono ?_
          rintro e wF ⟨rfl, rfl⟩
          unfold Fault
          go_wp2_with fail
          exact ⟨rfl, by rw [HC.out]; exact ⟨G6.out, rfl, r6.out.any⟩⟩
    · replace hor : isT R bOrder = false := by simpa using hor
      have hL0 := hid (show queryP fin L = (match limitP fin R with | .bad e p => .bad e p | .ok l T => endP fin ⟨n, ⟨#[]⟩, false, l, cb⟩ T) from by
        have q := hQP.out
        simp only [orderP, hor] at q
        exact q)
      clear hQP
      refine (skipNo_c bOrder rb fin 0 R w4 rw4.out hor).mono ?_
      rintro e wa ⟨rfl, rfl⟩
      clear hor
      go_wp2_with fail
      have hL := hid (hL0.out)
      by_cases hlim : isT (R) bLimit = true
      · refine (skipYes_c bLimit rb fin 0 (R) w4 rw4.out hlim).mono ?_
        rintro e wa ⟨rfl, ra, ga⟩
        have hsa := ga.size
        have Ga := hid (Lib.grownBy_trans Gw4.out ga)
        have Qa := hid (heapBy ga Qw4.out (by omega))
        have Za := hid (heapBy ga Zw4.out (by omega))
        have Na := hid (NodeR.In.grown (fun b _ hb => by have : qb + 1 ≤ b := hb; simp; omega) ga Nw4.out)
        have raa := hid ra
        obtain ⟨pa, capa, hha, _, _, hta, hwa⟩ := ra
        have ca : wa.cell? ⟨rb, 0, none⟩ = some (.slice pa (R).tail.length capa) := by rw [heap_cell hha]; rfl
        cases htl : (R).tail with
        | nil =>
          rw [htl] at ca raa
          have HC := hid (show queryP fin L = failP fin 41 [] from by rw [hL.out]; simp [limitP, hlim, htl, failP])
          clear hha hta ga hlim htl hwa
          go_wp2_with fail
          refine (takeBad_c (L := []) (k := 2) (fun t R e => by cases e) rb fin 0 wa raa.out).mono ?_
          rintro e wF ⟨gF, rfl, rF⟩
          have FIN := hid (show RdPost (α := QueryR) (fun q v w => q.In (fun b => lo ≤ b) w v) rb fin 0 (failP fin 41 []) w (Fault (failE 41 []) (failAt fin [])) wF from ⟨Lib.grownBy_trans Ga.out gF, rfl, rF⟩)
          clear gF rF
          unfold Fault
          go_wp2_with fail
          exact ⟨rfl, by rw [HC.out]; exact FIN.out⟩
        | cons v L2 =>
          rw [htl] at ca raa hta hwa
          obtain ⟨ba, oa, rfl, hba, hnea, hoa, ⟨t0, t1, t2, t3⟩, -⟩ := hta (by simp)
          have hla : (0 : Int) < ((v :: L2).length : Int) := by simp only [List.length_cons]; omega
          have hla2 : 0 < (v :: L2).length := by simp
          have hl2 := hid (show queryP fin L = (if v.num < 0 then failP fin 43 (v :: L2) else if v.kind = 2 then endP fin ⟨n, ⟨#[]⟩, false, v.num, cb⟩ L2 else failP fin 41 (v :: L2)) from by
            rw [hL.out]
            simp only [limitP, hlim, htl, if_true]
            by_cases q1 : v.num < 0
            · simp [q1, failP]
            · by_cases q2 : v.kind = 2
              · simp [q1, q2]
              · simp [q1, q2, failP])
          have hv1 : -1099511627776 ≤ v.num := (hwa v (by simp)).2.2.2.2.1
          have hv2 : v.num ≤ 1099511627776 := (hwa v (by simp)).2.2.2.2.2.1
          clear hha hta ga hlim htl hwa hoa
          generalize (v :: L2).length = na at *
          by_cases hneg : v.num < 0
          · have HC := hid (show queryP fin L = failP fin 43 (v :: L2) from by rw [hl2.out, if_pos hneg])
            go_wp2_with fail
            refine (failIs_c 43 rb fin 0 (v :: L2) wa raa.out).mono ?_
            rintro e wF ⟨rfl, rfl⟩
            unfold Fault
            go_wp2_with fail
            exact ⟨rfl, by rw [HC.out]; exact ⟨Ga.out, rfl, raa.out.any⟩⟩
          · have hl3 := hid (hl2.out.trans (if_neg hneg))
            have hneg2 : decide (v.num < 0) = false := by simpa using hneg
            go_wp2_with fail
            by_cases hk : v.kind = 2
            · refine (takeOk_c hk rb fin 0 wa raa.out).mono ?_
              rintro e wb ⟨gb, rfl, rb4⟩
              have hsb := gb.size
              have Qb := heapBy gb Qa.out (by omega)
              have l7 : wb.cell? ⟨qb, 7, none⟩ = some (.int .i64 (-1)) := by rw [heap_cell Qb]; rfl
              have m7 : wb.frozen? ⟨qb, 7, none⟩ = false := heap_frozen Qb 7 (by omega)
              have Qc := heap_set Qb 7 (.int .i64 v.num)
              have Zc := heap_keep (heapBy gb Za.out (by omega)) ⟨qb, 7, none⟩ (.int .i64 v.num) (by simp; omega)
              have Gc := grownBy_setNew (Lib.grownBy_trans Ga.out gb) (g := qb) (by omega) 7 (.int .i64 v.num)
              have rc := rb4.setB (g := qb) (by omega) 7 (.int .i64 v.num)
              have Nc := NodeR.In.grown (fun b _ hb => by have : qb + 1 ≤ b := hb; simp; omega) (Lib.grownBy_setB (World.grownBy.refl wb (some qb)) 7 (.int .i64 v.num)) (NodeR.In.grown (fun b _ hb => by have : qb + 1 ≤ b := hb; simp; omega) gb Na.out)
              have hE0 := hid (hl3.out.trans (if_pos hk))
              have Zb := heapBy gb Za.out (by omega)
              replace Qb := hid Qb
              replace Zb := hid Zb
              replace Zc := hid Zc
              replace Gc := hid Gc
              replace rc := hid rc
              replace Nc := hid Nc
              replace rb4 := hid rb4
              have n1 : rs ≠ qb := by omega
              have n2 : rb ≠ qb := by omega
              clear gb ca t0 t1 t2 t3 hk Qc
              have hE := hid (hE0.out)
              have rBB := rb4.out
              obtain ⟨pE, capE, hhE, _, _, htE, _⟩ := rBB
              have cE : wb.cell? ⟨rb, 0, none⟩ = some (.slice pE (L2).length capE) := by rw [heap_cell hhE]; rfl
              cases hrest : (L2) with
              | nil =>
                rw [hrest] at cE
                have HC := hid (show queryP fin L = .ok ⟨n, ⟨#[]⟩, false, v.num, cb⟩ [] from by rw [hE.out, hrest]; rfl)
                have b0 : wb.cell? ⟨qb, 0, none⟩ = some (.int .i64 nk) := by rw [heap_cell Qb.out]; rfl
                have b1 : wb.cell? ⟨qb, 1, none⟩ = some (.slice np nl nc) := by rw [heap_cell Qb.out]; rfl
                have b2 : wb.cell? ⟨qb, 2, none⟩ = some (.string nf) := by rw [heap_cell Qb.out]; rfl
                have b3 : wb.cell? ⟨qb, 3, none⟩ = some (.string ns) := by rw [heap_cell Qb.out]; rfl
                have b4 : wb.cell? ⟨qb, 4, none⟩ = some (.int .i64 nx) := by rw [heap_cell Qb.out]; rfl
                have b5 : wb.cell? ⟨qb, 5, none⟩ = some (.string ⟨#[]⟩) := by rw [heap_cell Qb.out]; rfl
                have b6 : wb.cell? ⟨qb, 6, none⟩ = some (.bool false) := by rw [heap_cell Qb.out]; rfl
                have b7 : wb.cell? ⟨qb, 7, none⟩ = some (.int .i64 (-1)) := by rw [heap_cell Qb.out]; rfl
                have b8 : wb.cell? ⟨qb, 8, none⟩ = some (.bool cb) := by rw [heap_cell Qb.out]; rfl
                have z0 : wb.cell? ⟨rs, 0, none⟩ = some (.int .i64 0) := by rw [heap_cell Zb.out]; rfl
                have y0 : wb.frozen? ⟨rs, 0, none⟩ = false := heap_frozen Zb.out 0 (by omega)
                have z1 : wb.cell? ⟨rs, 1, none⟩ = some (.slice none 0 0) := by rw [heap_cell Zb.out]; rfl
                have y1 : wb.frozen? ⟨rs, 1, none⟩ = false := heap_frozen Zb.out 1 (by omega)
                have z2 : wb.cell? ⟨rs, 2, none⟩ = some (.string ⟨#[]⟩) := by rw [heap_cell Zb.out]; rfl
                have y2 : wb.frozen? ⟨rs, 2, none⟩ = false := heap_frozen Zb.out 2 (by omega)
                have z3 : wb.cell? ⟨rs, 3, none⟩ = some (.string ⟨#[]⟩) := by rw [heap_cell Zb.out]; rfl
                have y3 : wb.frozen? ⟨rs, 3, none⟩ = false := heap_frozen Zb.out 3 (by omega)
                have z4 : wb.cell? ⟨rs, 4, none⟩ = some (.int .i64 0) := by rw [heap_cell Zb.out]; rfl
                have y4 : wb.frozen? ⟨rs, 4, none⟩ = false := heap_frozen Zb.out 4 (by omega)
                have z5 : wb.cell? ⟨rs, 5, none⟩ = some (.string ⟨#[]⟩) := by rw [heap_cell Zb.out]; rfl
                have y5 : wb.frozen? ⟨rs, 5, none⟩ = false := heap_frozen Zb.out 5 (by omega)
                have z6 : wb.cell? ⟨rs, 6, none⟩ = some (.bool false) := by rw [heap_cell Zb.out]; rfl
                have y6 : wb.frozen? ⟨rs, 6, none⟩ = false := heap_frozen Zb.out 6 (by omega)
                have z7 : wb.cell? ⟨rs, 7, none⟩ = some (.int .i64 0) := by rw [heap_cell Zb.out]; rfl
                have y7 : wb.frozen? ⟨rs, 7, none⟩ = false := heap_frozen Zb.out 7 (by omega)
                have z8 : wb.cell? ⟨rs, 8, none⟩ = some (.bool false) := by rw [heap_cell Zb.out]; rfl
                have y8 : wb.frozen? ⟨rs, 8, none⟩ = false := heap_frozen Zb.out 8 (by omega)
                have E := hid (store9 Gc.out rc.out Zc.out hws hrb1 (.int .i64 nk) (.slice np nl nc) (.string nf) (.string ns) (.int .i64 nx) (.string ⟨#[]⟩) (.bool false) (.int .i64 v.num) (.bool cb) Nc.out (lo := lo) (by omega))
                rw [hrest] at E
                replace hrest := hid hrest
                clear hhE htE
                go_wp2_with fail
                have hC1 := HC.out
                have E1 := E.out
                with_reducible refine query_ret ?_ hC1 E1
                rfl
              | cons tE RE =>
                rw [hrest] at cE
                have HC := hid (show queryP fin L = failP fin 41 (tE :: RE) from by rw [hE.out, hrest]; rfl)
                have hlE : (0 : Int) < ((tE :: RE).length : Int) := by simp only [List.length_cons]; omega
                have rE := rc
                rw [hrest] at rE
                clear hhE htE hrest
                generalize (tE :: RE).length = nE at *
                go_wp2_with fail
                refine (failIs_c 41 rb fin 0 (tE :: RE) _ rE.out).mono ?_
                rintro e wF ⟨rfl, rfl⟩
                unfold Fault
                go_wp2_with fail
                exact ⟨rfl, by rw [HC.out]; exact ⟨Gc.out, rfl, rE.out.any⟩⟩
            · have HC := hid (show queryP fin L = failP fin 41 (v :: L2) from by rw [hl3.out, if_neg hk])
              refine (takeBad_c (L := v :: L2) (k := 2) (fun t R e => by cases e; exact hk) rb fin 0 wa raa.out).mono ?_
              rintro e wF ⟨gF, rfl, rF⟩
              have FIN := hid (show RdPost (α := QueryR) (fun q v w => q.In (fun b => lo ≤ b) w v) rb fin 0 (failP fin 41 (v :: L2)) w (Fault (failE 41 (v :: L2)) (failAt fin (v :: L2))) wF from ⟨Lib.grownBy_trans Ga.out gF, rfl, rF⟩)
              clear gF rF hk
              unfold Fault
              go_wp2_with fail
              exact ⟨rfl, by rw [HC.out]; exact FIN.out⟩
      · replace hlim : isT (R) bLimit = false := by simpa using hlim
        have hE0 := hid (show queryP fin L = endP fin ⟨n, ⟨#[]⟩, false, -1, cb⟩ (R) from by rw [hL.out]; simp [limitP, hlim])
        refine (skipNo_c bLimit rb fin 0 (R) w4 rw4.out hlim).mono ?_
        rintro e wa ⟨rfl, rfl⟩
        clear hlim
        have hE := hid (hE0.out)
        have rBB := rw4.out
        obtain ⟨pE, capE, hhE, _, _, htE, _⟩ := rBB
        have cE : w4.cell? ⟨rb, 0, none⟩ = some (.slice pE (R).length capE) := by rw [heap_cell hhE]; rfl
        cases hrest : (R) with
        | nil =>
          rw [hrest] at cE
          have HC := hid (show queryP fin L = .ok ⟨n, ⟨#[]⟩, false, (-1), cb⟩ [] from by rw [hE.out, hrest]; rfl)
          have b0 : w4.cell? ⟨qb, 0, none⟩ = some (.int .i64 nk) := by rw [heap_cell Qw4.out]; rfl
          have b1 : w4.cell? ⟨qb, 1, none⟩ = some (.slice np nl nc) := by rw [heap_cell Qw4.out]; rfl
          have b2 : w4.cell? ⟨qb, 2, none⟩ = some (.string nf) := by rw [heap_cell Qw4.out]; rfl
          have b3 : w4.cell? ⟨qb, 3, none⟩ = some (.string ns) := by rw [heap_cell Qw4.out]; rfl
          have b4 : w4.cell? ⟨qb, 4, none⟩ = some (.int .i64 nx) := by rw [heap_cell Qw4.out]; rfl
          have b5 : w4.cell? ⟨qb, 5, none⟩ = some (.string ⟨#[]⟩) := by rw [heap_cell Qw4.out]; rfl
          have b6 : w4.cell? ⟨qb, 6, none⟩ = some (.bool false) := by rw [heap_cell Qw4.out]; rfl
          have b7 : w4.cell? ⟨qb, 7, none⟩ = some (.int .i64 (-1)) := by rw [heap_cell Qw4.out]; rfl
          have b8 : w4.cell? ⟨qb, 8, none⟩ = some (.bool cb) := by rw [heap_cell Qw4.out]; rfl
          have z0 : w4.cell? ⟨rs, 0, none⟩ = some (.int .i64 0) := by rw [heap_cell Zw4.out]; rfl
          have y0 : w4.frozen? ⟨rs, 0, none⟩ = false := heap_frozen Zw4.out 0 (by omega)
          have z1 : w4.cell? ⟨rs, 1, none⟩ = some (.slice none 0 0) := by rw [heap_cell Zw4.out]; rfl
          have y1 : w4.frozen? ⟨rs, 1, none⟩ = false := heap_frozen Zw4.out 1 (by omega)
          have z2 : w4.cell? ⟨rs, 2, none⟩ = some (.string ⟨#[]⟩) := by rw [heap_cell Zw4.out]; rfl
          have y2 : w4.frozen? ⟨rs, 2, none⟩ = false := heap_frozen Zw4.out 2 (by omega)
          have z3 : w4.cell? ⟨rs, 3, none⟩ = some (.string ⟨#[]⟩) := by rw [heap_cell Zw4.out]; rfl
          have y3 : w4.frozen? ⟨rs, 3, none⟩ = false := heap_frozen Zw4.out 3 (by omega)
          have z4 : w4.cell? ⟨rs, 4, none⟩ = some (.int .i64 0) := by rw [heap_cell Zw4.out]; rfl
          have y4 : w4.frozen? ⟨rs, 4, none⟩ = false := heap_frozen Zw4.out 4 (by omega)
          have z5 : w4.cell? ⟨rs, 5, none⟩ = some (.string ⟨#[]⟩) := by rw [heap_cell Zw4.out]; rfl
          have y5 : w4.frozen? ⟨rs, 5, none⟩ = false := heap_frozen Zw4.out 5 (by omega)
          have z6 : w4.cell? ⟨rs, 6, none⟩ = some (.bool false) := by rw [heap_cell Zw4.out]; rfl
          have y6 : w4.frozen? ⟨rs, 6, none⟩ = false := heap_frozen Zw4.out 6 (by omega)
          have z7 : w4.cell? ⟨rs, 7, none⟩ = some (.int .i64 0) := by rw [heap_cell Zw4.out]; rfl
          have y7 : w4.frozen? ⟨rs, 7, none⟩ = false := heap_frozen Zw4.out 7 (by omega)
          have z8 : w4.cell? ⟨rs, 8, none⟩ = some (.bool false) := by rw [heap_cell Zw4.out]; rfl
          have y8 : w4.frozen? ⟨rs, 8, none⟩ = false := heap_frozen Zw4.out 8 (by omega)
          have E := hid (store9 Gw4.out rw4.out Zw4.out hws hrb1 (.int .i64 nk) (.slice np nl nc) (.string nf) (.string ns) (.int .i64 nx) (.string ⟨#[]⟩) (.bool false) (.int .i64 (-1)) (.bool cb) Nw4.out (lo := lo) (by omega))
          rw [hrest] at E
          replace hrest := hid hrest
          clear hhE htE
          go_wp2_with fail
          have hC1 := HC.out
          have E1 := E.out
          with_reducible refine query_ret ?_ hC1 E1
          rfl
        | cons tE RE =>
          rw [hrest] at cE
          have HC := hid (show queryP fin L = failP fin 41 (tE :: RE) from by rw [hE.out, hrest]; rfl)
          have hlE : (0 : Int) < ((tE :: RE).length : Int) := by simp only [List.length_cons]; omega
          have rE := rw4
          rw [hrest] at rE
          clear hhE htE hrest
          generalize (tE :: RE).length = nE at *
          go_wp2_with fail
          refine (failIs_c 41 rb fin 0 (tE :: RE) _ rE.out).mono ?_
          rintro e wF ⟨rfl, rfl⟩
          unfold Fault
          go_wp2_with fail
          exact ⟨rfl, by rw [HC.out]; exact ⟨Gw4.out, rfl, rE.out.any⟩⟩
end Go.Proofs.YteilkcdbdpkbfaaDoor
