/- What model.list computes. -/
import Derived.Test.YtlhgdbangnohjaaMNumber
import Derived.Test.YtlhgdbangnohjaaPush
namespace Go.Proofs.Ytlhgdbangnohjaa
open Go.RowKit
set_option linter.unusedVariables false
set_option linter.unusedSimpArgs false
theorem Ints.drop1 {w : World} {p : Option Addr} {n c : Nat} {xs : List Int} (h : Ints w (.slice p n c) xs) : ∀ b off, p = some ⟨b, off, none⟩ → 0 < n → Ints w (.slice (some ⟨b, off + 1, none⟩) (n - 1) (c - 1)) (xs.drop 1) := by
  rintro b off rfl h0
  obtain ⟨p, cap, e, hl, hc, hcap⟩ := h
  cases e
  refine ⟨_, _, by rw [List.length_drop], by rw [List.length_drop]; omega, fun h1 => ?_, by rw [List.length_drop]; omega⟩
  rw [List.length_drop] at h1 ⊢
  obtain ⟨b', off', e, H⟩ := hc h0
  cases e
  refine ⟨b, off + 1, rfl, fun i hi => ?_⟩
  have := H (i + 1) (by omega)
  rw [show off + 1 + i = off + (i + 1) by omega, this]
  simp [List.getD, Nat.add_comm]
theorem Ints.take1 {w : World} {p : Option Addr} {n c : Nat} {xs : List Int} (h : Ints w (.slice p n c) xs) : Ints w (.slice p (n - 1) c) (xs.take (n - 1)) := by
  obtain ⟨p, cap, e, hl, hc, hcap⟩ := h
  cases e
  have hlen : (xs.take (xs.length - 1)).length = xs.length - 1 := by rw [List.length_take]; omega
  refine ⟨_, _, by rw [hlen], by rw [hlen]; omega, fun h1 => ?_, by rw [hlen]; omega⟩
  rw [hlen] at h1 ⊢
  obtain ⟨b, off, rfl, H⟩ := hc (by omega)
  refine ⟨b, off, rfl, fun i hi => ?_⟩
  rw [H i (by omega)]
  rw [List.getD_eq_getElem?_getD, List.getD_eq_getElem?_getD, List.getElem?_take, if_pos hi]
theorem Grow.drewNB {B : Nat} {a b : World} (h : Below B a b) (n : Nat) : Below B a (b.drewN n) := ⟨h.os, h.tape, h.output, h.size, h.block⟩
theorem i64s_at {xs : List Int} {j : Nat} (h : j < xs.length) : (i64s xs)[j]? = some (.int .i64 (xs.getD j 0)) := by
  unfold i64s
  rw [List.getElem?_map, List.getElem?_eq_getElem h]
  simp [List.getD, List.getElem?_eq_getElem h]
theorem Ints.drop0 {w : World} {p : Option Addr} {n c : Nat} {xs : List Int} (hx : xs.length ≤ 1) (hn : n ≤ 1) : Ints w (.slice p (n - 1) c) (xs.drop 1) := by
  have e : xs.drop 1 = [] := List.drop_eq_nil_of_le hx
  rw [e, show n - 1 = 0 by omega]
  exact ⟨p, c, rfl, by simp, (fun h => by simp at h), by simp⟩
theorem wpList_pushHW {P : Program} {w0 : World} {ops : Array Oper} {rest : List Oper} {o : Oper} {a : Act} {Q : Exit → Act → World → Prop} (H : Nat) (hH : w0.heap.size = H) (hg : o.guard = none) (s x : Operand) (t : TypeId)
    (hop : o.op = .call { callee := .builtin .append, args := #[s, x], argTypes := #[t, t] })
    (e : TypeId) (z : Value) (size bytes : Nat) (ht : P.underlying t = some (.slice e)) (hi : Info P e z size bytes) (hzs : z.cells.size = size) (hsz : 0 < size)
    (base : Nat) (v : Value) (n : Nat) (xs : List Value) (hs : a.eval s = v) (hown : w0.ownsRow base e size v n xs)
    (cs : List Value) (hx : a.eval x = .slice (some ⟨H, 0, none⟩) 1 1) (hcs : cs.length = size) (h1 : ∀ u ∈ cs, u.oneCell' = true)
    (h63 : n + 1 ≤ maxLen) (hbytes : ((n + 1) + (n + 1) / 4 + 192) * bytes ≤ 281474976710656) (hbase : base ≤ w0.heap.size)
    (hK : ∀ v' w', w'.ownsRow base e size v' (n + 1) (xs ++ cs) → w0.grownBy w' v.ownBlock → w0.heap.size < w'.heap.size → wpList P ops Q rest (a.put o.dst v') w') :
    wpList P ops Q (o :: rest) a (w0.alloc (.cells cs.toArray e)) := by
  subst hH
  obtain ⟨i0, hi0, hz0, hz1, hz2⟩ := info_parts hi
  refine wpList_append_own_wide _ hg s x t hop base e i0 z size bytes ht hi0 hz0 hz1 hz2 hzs hsz v n xs hs (hown.alloc _) ⟨w0.heap.size, 0, none⟩ 1 1 cs hx (by omega) ?_ h1 h63 hbytes (by simp; omega) ?_
  · intro j u hu
    rw [Addr.add_lit, Nat.zero_add, cell_of_row _ w0.heap.size j cs.toArray e (0, 0) (heap_alloc_new w0 _)]
    simpa using hu
  · intro v' w' ho hgr _
    exact hK v' w' ho (grownBy_of_alloc hgr) (by have := hgr.size; simp at this; omega)
set_option maxRecDepth 100000 in
set_option maxHeartbeats 4000000 in
theorem list_c (xs : List Int) (o : OpR) (v : Value) (w : World) (base : Nat) (hb : base ≤ w.heap.size) (hn : xs.length < 20000000000000) (hv : w.ownsRow base 3 1 v xs.length (i64s xs)) : Calls Try.prog 54 #[v, .agg #[.int .i64 o.id, .int .i64 o.proc, .int .i64 o.obj, .int .i64 o.kind, .int .i64 o.meth, .int .i64 o.arg, .int .i64 o.sec, .bool o.done, .int .i64 o.res, .int .i64 o.inv, .int .i64 o.ret]] w (DoPost base (listL xs o) w) := by
  obtain ⟨id, proc, obj, kind, meth, arg, sec, done, res, inv, ret⟩ := o
  dsimp only
  generalize hR : listL xs ⟨id, proc, obj, kind, meth, arg, sec, done, res, inv, ret⟩ = R
  have HR := hid hR
  clear hR
  by_cases h0 : xs.length = 0
  · obtain rfl := List.eq_nil_of_length_eq_zero h0
    replace hv : w.ownsRow base 3 1 v 0 (i64s []) := hv
    have HI := hid (Ints.of_own hv (by omega))
    obtain ⟨p, cap, rfl⟩ := own_formM hv
    have HO := hid hv
    clear hv
    go_enter Try.func54, Try.ntmps54
    go_wp2_with (at_builtin; refine wpList_pushHW (w.heap.size + 1) (by simp) rfl _ _ 23 rfl 3 (.int .i64 0) 1 8 Try.underlying23 infoIntM rfl (by omega) base _ 0 _ rfl (HO.out.alloc _) [_] rfl rfl (by simp [Value.oneCell']) (by unfold maxLen; omega) (by omega) (by simp; omega) ?_; intro v' w' ho hgr hs'; rw [push_intM] at ho)
    all_goals go_ret3
    all_goals
      have e := HR.out
      simp only [beq_iff_eq, beq_eq_false_iff_ne, ne_eq] at *
      unfold listL at e
      dsimp only at e
      repeat (first | rw [if_pos (by omega)] at e | rw [if_neg (by omega)] at e)
      subst e
      refine DoPost.intro (by first | rfl | omega) rfl ?_ ?_
      rotate_left
      · first
          | exact (Below.refl _ _).alloc hb _
          | exact Grow.drewNB ((Below.refl _ _).alloc hb _) _
          | exact Row.below ((Below.refl _ _).alloc hb _) hgr (by simp; omega) (fun k hk => (HO.out.lt k hk).1)
      · first
          | exact IntsF.nil
          | exact ⟨Ints.of_own ho (by omega), Lies.own ho⟩
          | exact ⟨HI.out.grow (Grow.alloc _ _), Lies.own HO.out⟩
          | exact ⟨(HI.out.drop1 _ _ rfl (by omega)).grow (Grow.drewNM (Grow.alloc _ _) _), Lies.at hbg⟩
          | exact ⟨Ints.drop0 (by omega) (by omega), Lies.at hbg⟩
          | exact ⟨Ints.drop0 (by omega) (by omega), Lies.nil⟩
          | exact ⟨HI.out.take1.grow (Grow.drewNM (Grow.alloc _ _) _), Lies.at hbg⟩
  · have hI := Ints.of_own hv (by omega)
    have HI := hid hI
    have HO := hid hv
    rcases hv.2 with ⟨-, h⟩ | ⟨g, cap, cur, rfl, hbg, hg, hnc, hcm, hcs, htake⟩
    · exact absurd h h0
    have c0 := hv.cellAt 0 (by omega)
    have c1 := hv.cellAt (xs.length - 1) (by omega)
    rw [i64s_at (by omega)] at c0 c1
    have hblt := World.block_lt_of_cell? w _ c0
    simp only at hblt
    clear hI hv hg hcs htake hcm
    generalize hN : xs.length = n at *
    generalize hX0 : xs.getD 0 0 = x0 at *
    generalize hX1 : xs.getD (n - 1) 0 = x1 at *
    have hw : IntKind.i64.wrap ((n : Int) - 1) = ((n - 1 : Nat) : Int) := by rw [IntKind.wrap_i64]; omega
    have hn1 : ((n - 1 : Nat) : Int) < (n : Int) := by omega
    have hn2 : (0 : Int) ≤ ((n - 1 : Nat) : Int) := by omega
    have hn3 : (n : Int) ≤ (cap : Int) := by omega
    have hn4 : (0 : Int) < (n : Int) := by omega
    have hn5 : (1 : Int) ≤ (n : Int) := by omega
    have hn6 : ((n - 1 : Nat) : Int) ≤ (cap : Int) := by omega
    have hne : ((n : Int) == 0) = false := by simp; omega
    go_enter Try.func54, Try.ntmps54
    go_wp2_with (at_builtin; refine wpList_pushHW (w.heap.size + 1) (by simp) rfl _ _ 23 rfl 3 (.int .i64 0) 1 8 Try.underlying23 infoIntM rfl (by omega) base _ n _ rfl (HO.out.alloc _) [_] rfl rfl (by simp [Value.oneCell']) (by unfold maxLen; omega) (by omega) (by simp; omega) ?_; intro v' w' ho hgr hs'; rw [push_intM] at ho)
    all_goals try (go_quiet (fail); go_wp2_with fail)
    all_goals go_ret3
    all_goals clear c0 c1 hw hn1 hn2 hn3 hn4 hn5 hn6 hne
    all_goals
      have e := HR.out
      simp only [beq_iff_eq, beq_eq_false_iff_ne, ne_eq] at *
      unfold listL at e
      dsimp only at e
      rw [hN, hX0, hX1] at e
      repeat (first | rw [if_pos (by omega)] at e | rw [if_neg (by omega)] at e)
      subst e
      refine DoPost.intro (by first | rfl | omega) rfl ?_ ?_
      rotate_left
      · first
          | exact (Below.refl _ _).alloc hb _
          | exact Grow.drewNB ((Below.refl _ _).alloc hb _) _
          | exact Row.below ((Below.refl _ _).alloc hb _) hgr (by simp; omega) (fun k hk => (HO.out.lt k hk).1)
      · first
          | exact IntsF.nil
          | exact ⟨Ints.of_own ho (by omega), Lies.own ho⟩
          | exact ⟨HI.out.grow (Grow.alloc _ _), Lies.own HO.out⟩
          | exact ⟨(HI.out.drop1 _ _ rfl (by omega)).grow (Grow.drewNM (Grow.alloc _ _) _), Lies.at hbg⟩
          | exact ⟨Ints.drop0 (by omega) (by omega), Lies.at hbg⟩
          | exact ⟨Ints.drop0 (by omega) (by omega), Lies.nil⟩
          | exact ⟨HI.out.take1.grow (Grow.drewNM (Grow.alloc _ _) _), Lies.at hbg⟩
end Go.Proofs.Ytlhgdbangnohjaa
