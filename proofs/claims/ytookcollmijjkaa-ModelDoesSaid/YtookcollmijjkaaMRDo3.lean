/- What the reference's Do computes: queues and stacks. -/
import Derived.Test.YtookcollmijjkaaMRDo2
import Derived.Deep.RegionHeld3
import Derived.Deep.Upon
import Derived.Maps.AppendAt
namespace Go.Proofs.Ytookcollmijjkaa
open Go.RowKit
set_option linter.unusedVariables false
set_option linter.unusedSimpArgs false
theorem Ints.len {w : World} {p : Option Addr} {n c : Nat} {xs : List Int} (h : Ints w (.slice p n c) xs) : n = xs.length := by
  obtain ⟨q, cap, e, _⟩ := h.at
  injection e
theorem Ints.grownBy {W w5 : World} {v : Value} {xs : List Int} {row : Option Nat} (h : Ints W v xs) (g : W.grownBy w5 row) (hne : ∀ b off n c, v = .slice (some ⟨b, off, none⟩) n c → some b ≠ row) : Ints w5 v xs := by
  obtain ⟨p, cap, rfl, hl, hc, hcap⟩ := h
  refine ⟨p, cap, rfl, hl, fun h0 => ?_, hcap⟩
  obtain ⟨b, off, rfl, hcell⟩ := hc h0
  refine ⟨b, off, rfl, fun i hi => ?_⟩
  rw [← hcell i hi]
  exact World.cell?_of_block (g.block b (World.block_lt_of_cell? W _ (hcell i hi)) (hne b off _ _ rfl))
theorem order2 {wy w5 : World} {arg : Int} {v : Value} (hv : v = .slice (some ⟨wy.heap.size, 0, none⟩) 0 0) (g5 : ((wy.alloc (.cells #[] 3)).alloc (.cells #[.int .i64 arg] 3)).drew.grownBy w5 v.ownBlock) : Ints w5 (.slice (some ⟨wy.heap.size + 1, 0, none⟩) 1 1) [arg] := by
  subst hv
  refine Ints.grownBy (Ints.one ((Grow.drew _).heap (heap_newAt (g := wy.heap.size + 1) (wy.alloc (.cells #[] 3)) (.cells #[.int .i64 arg] 3) (by simp)))) g5 ?_
  intro b off n c h
  cases h
  simp [Value.ownBlock]
theorem order3 {wy w5 : World} {arg : Int} {v : Value} (hv : v = .slice (some ⟨wy.heap.size + 1, 0, none⟩) 0 0) (g5 : ((wy.alloc (.cells #[.int .i64 arg] 3)).alloc (.cells #[] 3)).drew.grownBy w5 v.ownBlock) : Ints w5 (.slice (some ⟨wy.heap.size, 0, none⟩) 1 1) [arg] := by
  subst hv
  refine Ints.grownBy (Ints.one ((Grow.drew _).heap (heap_alloc_keep (heap_new wy (.cells #[.int .i64 arg] 3)) _))) g5 ?_
  intro b off n c h
  cases h
  simp [Value.ownBlock]
theorem order3_own {wy : World} {arg : Int} : ((wy.alloc (.cells #[.int .i64 arg] 3)).alloc (.cells #[] 3)).drew.ownsRow wy.heap.size 3 1 (.slice (some ⟨wy.heap.size + 1, 0, none⟩) 0 0) 0 (i64s []) := by
  have h := World.ownsRow_made (base := wy.heap.size) (e := 3) (size := 1) (wy.alloc (.cells #[.int .i64 arg] 3)) #[] 0 (by simp) (Nat.zero_le _) rfl
  simp only [World.size_alloc] at h
  exact own_growM h (Grow.drew _)
/-- Numbers behind numbers, at a step of a region that draws its order. -/
theorem run_append_ints {w : World} (ty : TypeId) (base : Nat) (v : Value) (n : Nat) (xs : List Int) (hown : w.ownsRow base 3 1 v n (i64s xs)) (p : Option Addr) (m c : Nat) (l : List Int) (hl : Ints w (.slice p m c) l) (hn : n + m ≤ 17592186044416) (hbase : base ≤ w.heap.size) :
    ∃ A cap w', (Builtin.append_ #[22, 22] ty #[v, .slice p m c]).run Try.prog w = .ok (.slice A (n + m) cap) w' ∧ w'.ownsRow base 3 1 (.slice A (n + m) cap) (n + m) (i64s (xs ++ l)) ∧ w.grownBy w' v.ownBlock := by
  obtain ⟨i0, hi0, hz0, hz1, hz2⟩ := info_parts infoIntM
  have hml := hl.len
  obtain ⟨A, k, e⟩ := own_formM hown
  by_cases h0 : m = 0
  · have hl0 : l = [] := List.eq_nil_of_length_eq_zero (by omega)
    subst hl0 h0
    have hle : n ≤ k := by
      rcases hown.2 with ⟨h1, h2⟩ | ⟨g, cap, cur, h1, _, _, h2, _⟩
      · rw [h2]; omega
      · rw [e] at h1; cases h1; exact h2
    subst e
    have hr := run_append_nothing w 22 22 ty 3 i0 Try.underlying22 hi0 A n k hle (.slice p 0 c) (by cases p with | none => exact Src.ofNil w Try.underlying22 c | some a => exact Src.ofSlice w Try.underlying22 a 0 c [] (by simp) (by simp) (by simp))
    exact ⟨A, k, w, hr, by simpa using hown, ⟨rfl, rfl, rfl, Nat.le_refl _, fun _ _ _ => rfl⟩⟩
  · obtain ⟨q, cap', e2, hc⟩ := hl.at
    cases e2
    obtain ⟨b, off, rfl, -⟩ := hc 0 (by omega)
    obtain ⟨v', w', hr, h1, h2, -⟩ := run_append_own_at w base 22 ty 3 i0 _ 1 8 Try.underlying22 hi0 hz0 hz1 hz2 rfl (by omega) v n (i64s xs) hown ⟨b, off, none⟩ l.length c (i64s l) (by rw [i64s_length]; omega) (fun j u hj => by
      have hjn : j < l.length := by
        have := (List.getElem?_eq_some_iff.1 hj).1
        rwa [i64s_length] at this
      obtain ⟨b', off', e, hcell⟩ := hc j hjn
      cases e
      rw [Addr.add_lit, hcell]
      rw [i64s_at hjn] at hj
      exact hj) (fun u hu => by obtain ⟨x, _, rfl⟩ := List.mem_map.1 hu; rfl) (by unfold maxLen; omega) (by omega) hbase
    rw [← i64s_append] at h1
    obtain ⟨A', k', rfl⟩ := own_formM h1
    exact ⟨A', k', w', hr, h1, h2⟩
theorem step_append_ints {ops : Array Oper} {o : Oper} {a : Act} {w : World} {K : Act → World → Prop} {Q : Exit → Act → World → Prop} {E : Prop} (hgd : o.guard = none) (s x : Operand)
    (ho : o.op = .call { callee := .builtin .append, args := #[s, x], argTypes := #[22, 22] }) (base : Nat) (v : Value) (n : Nat) (xs : List Int) (hs : a.eval s = v) (hown : w.ownsRow base 3 1 v n (i64s xs)) (p : Option Addr) (m c : Nat) (l : List Int) (hx : a.eval x = .slice p m c) (hl : Ints w (.slice p m c) l) (hn : n + m ≤ 17592186044416) (hbase : base ≤ w.heap.size) (N : Nat) (hN : n + m = N) (L : List Int) (hL : xs ++ l = L)
    (h : ∀ A cap w', w'.ownsRow base 3 1 (.slice A N cap) N (i64s L) → w.grownBy w' v.ownBlock → K (a.put o.dst (.slice A N cap)) w') :
    if Region.wanted o (yielded ops a.tmps) = true then Oper.wp Try.prog o a w K Q else E := by
  have hw : Region.wanted o (yielded ops a.tmps) = true := by simp [Region.wanted, hgd]
  rw [if_pos hw]
  subst hN hL
  obtain ⟨A, cap, w', hr, h2, h3⟩ := run_append_ints (w := w) o.type base v n xs hown p m c l hl hn hbase
  unfold Oper.wp execOp
  simp only [ho, resolve, invoke, builtin, Sem.run_bind, Sem.run_pure, Result.andThen_ok, List.map_toArray, List.map_cons, List.map_nil, hs, hx, hr]
  exact h A cap w' h2 h3
set_option maxRecDepth 100000 in
set_option maxHeartbeats 4000000 in
theorem RDo_deq (id proc obj arg sec : Int) (done : Bool) (res inv ret : Int) (xs : List Int) (b off n cap : Nat) (x : Int) (w : World) (hv : Ints w (.slice (some ⟨b, off, none⟩) n cap) xs) (h0 : 0 < n) (hc0 : w.cell? ⟨b, off, none⟩ = some (.int .i64 x)) (l : List Int) (hl : l = xs.drop 1) :
    Calls Try.prog 12 #[.slice (some ⟨b, off, none⟩) n cap, .agg #[.int .i64 id, .int .i64 proc, .int .i64 obj, .int .i64 3, .int .i64 7, .int .i64 arg, .int .i64 sec, .bool done, .int .i64 res, .int .i64 inv, .int .i64 ret]] w (DonePost (l, x, true) w) := by
  have HYF := hid (fun nq => Own2.mk' (Grow.drewNM (Grow.refl ((w.alloc (.cells #[.int .i64 id, .int .i64 proc, .int .i64 obj, .int .i64 3, .int .i64 7, .int .i64 arg, .int .i64 sec, .bool done, .int .i64 res, .int .i64 inv, .int .i64 ret] 27)).alloc (.cells #[.slice none 0 0, .int .i64 0, .bool false] 30))) nq))
  have hlv := hid (show xs = [] ∨ ∀ b' off' n' c', Value.slice (some ⟨b, off, none⟩) n cap = .slice (some ⟨b', off', none⟩) n' c' → b' ≠ w.heap.size + 1 from hv.apart (by omega))
  have hblt := World.block_lt_of_cell? w _ hc0
  simp only at hblt
  have hcap := hv.cap
  have HV := hid hv
  have HC0 := hid hc0
  have hln := hv.len
  have h20 := hv.length
  rw [← hln] at h20
  have HLN := hid hln
  have HL := hid hl
  have HAF := hid (show ∀ o n' c, l = [] ∨ ∀ b' off' n'' c', Value.slice (some ⟨b, o, none⟩) n' c = .slice (some ⟨b', off', none⟩) n'' c' → b' ≠ w.heap.size + 1 from fun o n' c => .inr fun b' off' n'' c' h => by cases h; omega)
  clear hv hc0 hln hl
  have hw : IntKind.i64.wrap ((n : Int) - 1) = ((n - 1 : Nat) : Int) := by rw [IntKind.wrap_i64]; omega
  have hn1 : ((n - 1 : Nat) : Int) < (n : Int) := by omega
  have hn2 : (0 : Int) ≤ ((n - 1 : Nat) : Int) := by omega
  have hn3 : (n : Int) ≤ (cap : Int) := by omega
  have hn4 : (0 : Int) < (n : Int) := by omega
  have hn5 : (1 : Int) ≤ (n : Int) := by omega
  have hn6 : ((n - 1 : Nat) : Int) ≤ (cap : Int) := by omega
  have hne : ((n : Int) == 0) = false := by simp; omega
  go_enter Try.func12, Try.ntmps12
  go_wp2_with fail
  go_quiet (fail)
  have HY := hid (HYF.out nq)
  generalize ((w.alloc (.cells #[.int .i64 id, .int .i64 proc, .int .i64 obj, .int .i64 3, .int .i64 7, .int .i64 arg, .int .i64 sec, .bool done, .int .i64 res, .int .i64 inv, .int .i64 ret] 27)).alloc (.cells #[.slice none 0 0, .int .i64 0, .bool false] 30)).drewN nq = wy at *
  clear HYF
  have d0 := HY.out.d0
  have d1 := HY.out.d1
  have d2 := HY.out.d2
  have f0 := HY.out.f0
  have f1 := HY.out.f1
  have f2 := HY.out.f2
  have c1 := HY.out.c1
  have c5 := HY.out.c5
  have hlt := HY.out.lt
  have hc0 := HY.out.grow.cell HC0.out
  have h01 : w.heap.size + 1 ≠ b := by omega
  go_wp2_with fail
  go_region_held3 (fun w' => w'.cell? ⟨b, off, none⟩ = some (.int .i64 x)) (go_keep) (fail)
  all_goals go_wp2_with fail
  all_goals (try simp only [Exit.inBlock, Exit.then])
  all_goals first
    | (refine done_ret (fn := Try.f12) (p := 4) (g := w.heap.size + 1) (e := 30) (fr := (0, 0)) (v := (.slice (some ⟨b, off + 1, none⟩) (n - 1) (cap - 1))) (n := x) (b := true) rfl rfl Try.underlying30 rfl (by kernel_rfl) rfl ?hg ?hP
       case hg => exact (Grow.drew _).heap (done3 HY.out.blk _ _ _)
       case hP => exact DonePost.intro rfl rfl ((Ints.sets (xs := l) (by rw [HL.out]; exact (HV.out.grow HY.out.grow).drop1 _ _ rfl h0) (HAF.out _ _ _)).grow (Grow.drew _)) (Grow.trans (HY.out.new (Grow.refl _) _ _ _) (Grow.drew _)))
    | (refine done_ret (fn := Try.f12) (p := 4) (g := w.heap.size + 1) (e := 30) (fr := (0, 0)) (v := (.slice (some ⟨b, off, none⟩) (n - 1) 0)) (n := x) (b := true) rfl rfl Try.underlying30 rfl (by kernel_rfl) rfl ?hg ?hP
       case hg => exact (Grow.drew _).heap (done3 HY.out.blk _ _ _)
       case hP => exact DonePost.intro rfl rfl ((Ints.sets (xs := l) (by rw [HL.out]; exact Ints.drop0 (by rw [← HLN.out]; omega) (by omega)) (HAF.out _ _ _)).grow (Grow.drew _)) (Grow.trans (HY.out.new (Grow.refl _) _ _ _) (Grow.drew _)))
set_option maxRecDepth 100000 in
set_option maxHeartbeats 4000000 in
theorem RDo_pop (id proc obj arg sec : Int) (done : Bool) (res inv ret : Int) (xs : List Int) (b off n cap : Nat) (x : Int) (w : World) (hv : Ints w (.slice (some ⟨b, off, none⟩) n cap) xs) (h0 : 0 < n) (hc0 : w.cell? ⟨b, off + (n - 1), none⟩ = some (.int .i64 x)) (l : List Int) (hl : l = xs.take (n - 1)) :
    Calls Try.prog 12 #[.slice (some ⟨b, off, none⟩) n cap, .agg #[.int .i64 id, .int .i64 proc, .int .i64 obj, .int .i64 4, .int .i64 9, .int .i64 arg, .int .i64 sec, .bool done, .int .i64 res, .int .i64 inv, .int .i64 ret]] w (DonePost (l, x, true) w) := by
  have HYF := hid (fun nq => Own2.mk' (Grow.drewNM (Grow.refl ((w.alloc (.cells #[.int .i64 id, .int .i64 proc, .int .i64 obj, .int .i64 4, .int .i64 9, .int .i64 arg, .int .i64 sec, .bool done, .int .i64 res, .int .i64 inv, .int .i64 ret] 27)).alloc (.cells #[.slice none 0 0, .int .i64 0, .bool false] 30))) nq))
  have hlv := hid (show xs = [] ∨ ∀ b' off' n' c', Value.slice (some ⟨b, off, none⟩) n cap = .slice (some ⟨b', off', none⟩) n' c' → b' ≠ w.heap.size + 1 from hv.apart (by omega))
  have hblt := World.block_lt_of_cell? w _ hc0
  simp only at hblt
  have hcap := hv.cap
  have HV := hid hv
  have HC0 := hid hc0
  have hln := hv.len
  have h20 := hv.length
  rw [← hln] at h20
  have HLN := hid hln
  have HL := hid hl
  have HAF := hid (show ∀ o n' c, l = [] ∨ ∀ b' off' n'' c', Value.slice (some ⟨b, o, none⟩) n' c = .slice (some ⟨b', off', none⟩) n'' c' → b' ≠ w.heap.size + 1 from fun o n' c => .inr fun b' off' n'' c' h => by cases h; omega)
  clear hv hc0 hln hl
  have hw : IntKind.i64.wrap ((n : Int) - 1) = ((n - 1 : Nat) : Int) := by rw [IntKind.wrap_i64]; omega
  have hn1 : ((n - 1 : Nat) : Int) < (n : Int) := by omega
  have hn2 : (0 : Int) ≤ ((n - 1 : Nat) : Int) := by omega
  have hn3 : (n : Int) ≤ (cap : Int) := by omega
  have hn4 : (0 : Int) < (n : Int) := by omega
  have hn5 : (1 : Int) ≤ (n : Int) := by omega
  have hn6 : ((n - 1 : Nat) : Int) ≤ (cap : Int) := by omega
  have hne : ((n : Int) == 0) = false := by simp; omega
  go_enter Try.func12, Try.ntmps12
  go_wp2_with fail
  go_quiet (fail)
  have HY := hid (HYF.out nq)
  generalize ((w.alloc (.cells #[.int .i64 id, .int .i64 proc, .int .i64 obj, .int .i64 4, .int .i64 9, .int .i64 arg, .int .i64 sec, .bool done, .int .i64 res, .int .i64 inv, .int .i64 ret] 27)).alloc (.cells #[.slice none 0 0, .int .i64 0, .bool false] 30)).drewN nq = wy at *
  clear HYF
  have d0 := HY.out.d0
  have d1 := HY.out.d1
  have d2 := HY.out.d2
  have f0 := HY.out.f0
  have f1 := HY.out.f1
  have f2 := HY.out.f2
  have c1 := HY.out.c1
  have c5 := HY.out.c5
  have hlt := HY.out.lt
  have hc0 := HY.out.grow.cell HC0.out
  have h01 : w.heap.size + 1 ≠ b := by omega
  go_wp2_with fail
  go_region_held3 (fun w' => w'.cell? ⟨b, off + (n - 1), none⟩ = some (.int .i64 x)) (go_keep) (fail)
  all_goals go_wp2_with fail
  all_goals (try simp only [Exit.inBlock, Exit.then])
  all_goals first
    | (refine done_ret (fn := Try.f12) (p := 4) (g := w.heap.size + 1) (e := 30) (fr := (0, 0)) (v := (.slice (some ⟨b, off, none⟩) (n - 1) cap)) (n := x) (b := true) rfl rfl Try.underlying30 rfl (by kernel_rfl) rfl ?hg ?hP
       case hg => exact (Grow.drew _).heap (done3 HY.out.blk _ _ _)
       case hP => exact DonePost.intro rfl rfl ((Ints.sets (xs := l) (by rw [HL.out]; exact (HV.out.grow HY.out.grow).take1) (HAF.out _ _ _)).grow (Grow.drew _)) (Grow.trans (HY.out.new (Grow.refl _) _ _ _) (Grow.drew _)))
set_option maxRecDepth 100000 in
set_option maxHeartbeats 8000000 in
theorem RDo_enq (id proc obj arg sec : Int) (done : Bool) (res inv ret : Int) (xs : List Int) (p : Option Addr) (n cap : Nat) (w : World) (hv : Ints w (.slice p n cap) xs) (hn : n + 1 ≤ 17592186044416) :
    Calls Try.prog 12 #[.slice p n cap, .agg #[.int .i64 id, .int .i64 proc, .int .i64 obj, .int .i64 3, .int .i64 6, .int .i64 arg, .int .i64 sec, .bool done, .int .i64 res, .int .i64 inv, .int .i64 ret]] w (DonePost (xs ++ [arg], 0, true) w) := by
  have HYF := hid (fun nq => Own2.mk' (Grow.drewNM (Grow.refl ((w.alloc (.cells #[.int .i64 id, .int .i64 proc, .int .i64 obj, .int .i64 3, .int .i64 6, .int .i64 arg, .int .i64 sec, .bool done, .int .i64 res, .int .i64 inv, .int .i64 ret] 27)).alloc (.cells #[.slice none 0 0, .int .i64 0, .bool false] 30))) nq))
  have HV := hid hv
  clear hv
  go_enter Try.func12, Try.ntmps12
  go_wp2_with fail
  go_quiet (fail)
  have HY := hid (HYF.out nq)
  generalize ((w.alloc (.cells #[.int .i64 id, .int .i64 proc, .int .i64 obj, .int .i64 3, .int .i64 6, .int .i64 arg, .int .i64 sec, .bool done, .int .i64 res, .int .i64 inv, .int .i64 ret] 27)).alloc (.cells #[.slice none 0 0, .int .i64 0, .bool false] 30)).drewN nq = wy at *
  clear HYF
  have d0 := HY.out.d0
  have d1 := HY.out.d1
  have d2 := HY.out.d2
  have f0 := HY.out.f0
  have f1 := HY.out.f1
  have f2 := HY.out.f2
  have c1 := HY.out.c1
  have c5 := HY.out.c5
  have hlt := HY.out.lt
  have hvy := HV.out.grow HY.out.grow
  have HVY := hid hvy
  clear hvy HV
  go_wp2_with fail
  go_region_held3 (fun w' => w'.cell? ⟨w.heap.size, 5, none⟩ = some (.int .i64 arg)) (first | go_keep | (exact Grow.cell G6.out c5) | (exact Grow.cell G5.out c5)) (first
    | (refine step_append_ints rfl _ _ rfl wy.heap.size _ 0 [] rfl (own_growM (World.ownsRow_made wy #[] 0 (by simp) (Nat.zero_le _) rfl) (Grow.drew _)) p n cap xs rfl (HVY.out.grow (Grow.trans (Grow.alloc wy (.cells #[] 3)) (Grow.drew _))) (by omega) (Grow.trans (Grow.alloc wy (.cells #[] 3)) (Grow.drew _)).size n (Nat.zero_add n) xs (List.nil_append xs) ?_; intro A5 k5 w5 o5 g5; have G5 := hid (show Grow wy w5 from Below.grown (Grow.trans (Grow.alloc wy (.cells #[] 3)) (Grow.drew _)) g5 (Grow.trans (Grow.alloc wy (.cells #[] 3)) (Grow.drew _)).size (fun k hk => Nat.le_of_eq (Option.some.inj hk))); have O5 := hid o5; clear o5 g5)
    | (refine step_append_ints rfl _ _ rfl wy.heap.size _ 0 [] rfl (own_growM (World.ownsRow_made wy #[] 0 (by simp) (Nat.zero_le _) rfl) (Grow.trans (Grow.alloc _ (.cells #[.int .i64 arg] 3)) (Grow.drew _))) p n cap xs rfl (HVY.out.grow (Grow.trans (Grow.trans (Grow.alloc wy (.cells #[] 3)) (Grow.alloc _ (.cells #[.int .i64 arg] 3))) (Grow.drew _))) (by omega) (Grow.trans (Grow.trans (Grow.alloc wy (.cells #[] 3)) (Grow.alloc _ (.cells #[.int .i64 arg] 3))) (Grow.drew _)).size n (Nat.zero_add n) xs (List.nil_append xs) ?_; intro A5 k5 w5 o5 g5; have G5 := hid (show Grow wy w5 from Below.grown (Grow.trans (Grow.trans (Grow.alloc wy (.cells #[] 3)) (Grow.alloc _ (.cells #[.int .i64 arg] 3))) (Grow.drew _)) g5 (Grow.trans (Grow.trans (Grow.alloc wy (.cells #[] 3)) (Grow.alloc _ (.cells #[.int .i64 arg] 3))) (Grow.drew _)).size (fun k hk => Nat.le_of_eq (Option.some.inj hk))); have O5 := hid o5; have X5 := hid (order2 rfl g5); clear o5 g5)
    | (refine step_append_ints rfl _ _ rfl wy.heap.size _ 0 [] rfl order3_own p n cap xs rfl (HVY.out.grow (Grow.trans (Grow.trans (Grow.alloc wy (.cells #[.int .i64 arg] 3)) (Grow.alloc _ (.cells #[] 3))) (Grow.drew _))) (by omega) (Grow.trans (Grow.trans (Grow.alloc wy (.cells #[.int .i64 arg] 3)) (Grow.alloc _ (.cells #[] 3))) (Grow.drew _)).size n (Nat.zero_add n) xs (List.nil_append xs) ?_; intro A5 k5 w5 o5 g5; have G5 := hid (show Grow wy w5 from Below.grown (Grow.trans (Grow.trans (Grow.alloc wy (.cells #[.int .i64 arg] 3)) (Grow.alloc _ (.cells #[] 3))) (Grow.drew _)) g5 (Grow.trans (Grow.trans (Grow.alloc wy (.cells #[.int .i64 arg] 3)) (Grow.alloc _ (.cells #[] 3))) (Grow.drew _)).size (fun k hk => Nat.le_trans (Nat.le_succ _) (Nat.le_of_eq (Option.some.inj hk)))); have O5 := hid o5; have X5 := hid (order3 rfl g5); clear o5 g5)
    | (refine step_append_ints rfl _ _ rfl wy.heap.size _ n xs rfl (own_growM O5.out (Grow.alloc w5 (.cells #[.int .i64 arg] 3))) _ 1 1 [arg] rfl (Ints.one (heap_new w5 _)) hn (Nat.le_trans G5.out.size (Grow.alloc w5 (.cells #[.int .i64 arg] 3)).size) (n + 1) rfl (xs ++ [arg]) rfl ?_; intro A6 k6 w6 o6 g6; have G6 := hid (show Grow wy w6 from Below.grown (Grow.trans G5.out (Grow.alloc w5 (.cells #[.int .i64 arg] 3))) g6 (Nat.le_trans G5.out.size (Grow.alloc w5 (.cells #[.int .i64 arg] 3)).size) (fun k hk => (O5.out.lt k hk).1)); have O6 := hid o6; clear o6 g6; have HY6 := hid (HY.out.next G6.out); have e0 := HY6.out.d0; have e1 := HY6.out.d1; have e2 := HY6.out.d2; have z0 := HY6.out.f0; have z1 := HY6.out.f1; have z2 := HY6.out.f2)
    | (refine step_append_ints rfl _ _ rfl wy.heap.size _ n xs rfl (own_growM O5.out (Grow.refl w5)) _ 1 1 [arg] rfl X5.out hn (Nat.le_trans G5.out.size (Grow.refl w5).size) (n + 1) rfl (xs ++ [arg]) rfl ?_; intro A6 k6 w6 o6 g6; have G6 := hid (show Grow wy w6 from Below.grown (Grow.trans G5.out (Grow.refl w5)) g6 (Nat.le_trans G5.out.size (Grow.refl w5).size) (fun k hk => (O5.out.lt k hk).1)); have O6 := hid o6; clear o6 g6; have HY6 := hid (HY.out.next G6.out); have e0 := HY6.out.d0; have e1 := HY6.out.d1; have e2 := HY6.out.d2; have z0 := HY6.out.f0; have z1 := HY6.out.f1; have z2 := HY6.out.f2)
    )
  all_goals go_wp2_with fail
  all_goals (try simp only [Exit.inBlock, Exit.then])
  all_goals
    refine done_ret (fn := Try.f12) (p := 4) (g := w.heap.size + 1) (e := 30) (fr := (0, 0)) (v := .slice A6 (n + 1) k6) (n := 0) (b := true) rfl rfl Try.underlying30 rfl (by kernel_rfl) rfl ?hg ?hP
    case hg => first | exact done3 HY6.out.blk _ _ _ | exact (Grow.drew _).heap (done3 HY6.out.blk _ _ _)
    case hP => first | exact DonePost.intro rfl rfl ((Ints.of_own O6.out (by omega)).sets (.inr fun b off n' c h => by have := (O6.out.lt b (by rw [h]; rfl)).1; omega)) (HY6.out.new (Grow.refl _) _ _ _) | exact DonePost.intro rfl rfl (((Ints.of_own O6.out (by omega)).sets (.inr fun b off n' c h => by have := (O6.out.lt b (by rw [h]; rfl)).1; omega)).grow (Grow.drew _)) (Grow.trans (HY6.out.new (Grow.refl _) _ _ _) (Grow.drew _))
set_option maxRecDepth 100000 in
set_option maxHeartbeats 8000000 in
theorem RDo_push (id proc obj arg sec : Int) (done : Bool) (res inv ret : Int) (xs : List Int) (p : Option Addr) (n cap : Nat) (w : World) (hv : Ints w (.slice p n cap) xs) (hn : n + 1 ≤ 17592186044416) :
    Calls Try.prog 12 #[.slice p n cap, .agg #[.int .i64 id, .int .i64 proc, .int .i64 obj, .int .i64 4, .int .i64 8, .int .i64 arg, .int .i64 sec, .bool done, .int .i64 res, .int .i64 inv, .int .i64 ret]] w (DonePost (xs ++ [arg], 0, true) w) := by
  have HYF := hid (fun nq => Own2.mk' (Grow.drewNM (Grow.refl ((w.alloc (.cells #[.int .i64 id, .int .i64 proc, .int .i64 obj, .int .i64 4, .int .i64 8, .int .i64 arg, .int .i64 sec, .bool done, .int .i64 res, .int .i64 inv, .int .i64 ret] 27)).alloc (.cells #[.slice none 0 0, .int .i64 0, .bool false] 30))) nq))
  have HV := hid hv
  clear hv
  go_enter Try.func12, Try.ntmps12
  go_wp2_with fail
  go_quiet (fail)
  have HY := hid (HYF.out nq)
  generalize ((w.alloc (.cells #[.int .i64 id, .int .i64 proc, .int .i64 obj, .int .i64 4, .int .i64 8, .int .i64 arg, .int .i64 sec, .bool done, .int .i64 res, .int .i64 inv, .int .i64 ret] 27)).alloc (.cells #[.slice none 0 0, .int .i64 0, .bool false] 30)).drewN nq = wy at *
  clear HYF
  have d0 := HY.out.d0
  have d1 := HY.out.d1
  have d2 := HY.out.d2
  have f0 := HY.out.f0
  have f1 := HY.out.f1
  have f2 := HY.out.f2
  have c1 := HY.out.c1
  have c5 := HY.out.c5
  have hlt := HY.out.lt
  have hvy := HV.out.grow HY.out.grow
  have HVY := hid hvy
  clear hvy HV
  go_wp2_with fail
  go_region_held3 (fun w' => w'.cell? ⟨w.heap.size, 5, none⟩ = some (.int .i64 arg)) (first | go_keep | (exact Grow.cell G6.out c5) | (exact Grow.cell G5.out c5)) (first
    | (refine step_append_ints rfl _ _ rfl wy.heap.size _ 0 [] rfl (own_growM (World.ownsRow_made wy #[] 0 (by simp) (Nat.zero_le _) rfl) (Grow.drew _)) p n cap xs rfl (HVY.out.grow (Grow.trans (Grow.alloc wy (.cells #[] 3)) (Grow.drew _))) (by omega) (Grow.trans (Grow.alloc wy (.cells #[] 3)) (Grow.drew _)).size n (Nat.zero_add n) xs (List.nil_append xs) ?_; intro A5 k5 w5 o5 g5; have G5 := hid (show Grow wy w5 from Below.grown (Grow.trans (Grow.alloc wy (.cells #[] 3)) (Grow.drew _)) g5 (Grow.trans (Grow.alloc wy (.cells #[] 3)) (Grow.drew _)).size (fun k hk => Nat.le_of_eq (Option.some.inj hk))); have O5 := hid o5; clear o5 g5)
    | (refine step_append_ints rfl _ _ rfl wy.heap.size _ 0 [] rfl (own_growM (World.ownsRow_made wy #[] 0 (by simp) (Nat.zero_le _) rfl) (Grow.trans (Grow.alloc _ (.cells #[.int .i64 arg] 3)) (Grow.drew _))) p n cap xs rfl (HVY.out.grow (Grow.trans (Grow.trans (Grow.alloc wy (.cells #[] 3)) (Grow.alloc _ (.cells #[.int .i64 arg] 3))) (Grow.drew _))) (by omega) (Grow.trans (Grow.trans (Grow.alloc wy (.cells #[] 3)) (Grow.alloc _ (.cells #[.int .i64 arg] 3))) (Grow.drew _)).size n (Nat.zero_add n) xs (List.nil_append xs) ?_; intro A5 k5 w5 o5 g5; have G5 := hid (show Grow wy w5 from Below.grown (Grow.trans (Grow.trans (Grow.alloc wy (.cells #[] 3)) (Grow.alloc _ (.cells #[.int .i64 arg] 3))) (Grow.drew _)) g5 (Grow.trans (Grow.trans (Grow.alloc wy (.cells #[] 3)) (Grow.alloc _ (.cells #[.int .i64 arg] 3))) (Grow.drew _)).size (fun k hk => Nat.le_of_eq (Option.some.inj hk))); have O5 := hid o5; have X5 := hid (order2 rfl g5); clear o5 g5)
    | (refine step_append_ints rfl _ _ rfl wy.heap.size _ 0 [] rfl order3_own p n cap xs rfl (HVY.out.grow (Grow.trans (Grow.trans (Grow.alloc wy (.cells #[.int .i64 arg] 3)) (Grow.alloc _ (.cells #[] 3))) (Grow.drew _))) (by omega) (Grow.trans (Grow.trans (Grow.alloc wy (.cells #[.int .i64 arg] 3)) (Grow.alloc _ (.cells #[] 3))) (Grow.drew _)).size n (Nat.zero_add n) xs (List.nil_append xs) ?_; intro A5 k5 w5 o5 g5; have G5 := hid (show Grow wy w5 from Below.grown (Grow.trans (Grow.trans (Grow.alloc wy (.cells #[.int .i64 arg] 3)) (Grow.alloc _ (.cells #[] 3))) (Grow.drew _)) g5 (Grow.trans (Grow.trans (Grow.alloc wy (.cells #[.int .i64 arg] 3)) (Grow.alloc _ (.cells #[] 3))) (Grow.drew _)).size (fun k hk => Nat.le_trans (Nat.le_succ _) (Nat.le_of_eq (Option.some.inj hk)))); have O5 := hid o5; have X5 := hid (order3 rfl g5); clear o5 g5)
    | (refine step_append_ints rfl _ _ rfl wy.heap.size _ n xs rfl (own_growM O5.out (Grow.alloc w5 (.cells #[.int .i64 arg] 3))) _ 1 1 [arg] rfl (Ints.one (heap_new w5 _)) hn (Nat.le_trans G5.out.size (Grow.alloc w5 (.cells #[.int .i64 arg] 3)).size) (n + 1) rfl (xs ++ [arg]) rfl ?_; intro A6 k6 w6 o6 g6; have G6 := hid (show Grow wy w6 from Below.grown (Grow.trans G5.out (Grow.alloc w5 (.cells #[.int .i64 arg] 3))) g6 (Nat.le_trans G5.out.size (Grow.alloc w5 (.cells #[.int .i64 arg] 3)).size) (fun k hk => (O5.out.lt k hk).1)); have O6 := hid o6; clear o6 g6; have HY6 := hid (HY.out.next G6.out); have e0 := HY6.out.d0; have e1 := HY6.out.d1; have e2 := HY6.out.d2; have z0 := HY6.out.f0; have z1 := HY6.out.f1; have z2 := HY6.out.f2)
    | (refine step_append_ints rfl _ _ rfl wy.heap.size _ n xs rfl (own_growM O5.out (Grow.refl w5)) _ 1 1 [arg] rfl X5.out hn (Nat.le_trans G5.out.size (Grow.refl w5).size) (n + 1) rfl (xs ++ [arg]) rfl ?_; intro A6 k6 w6 o6 g6; have G6 := hid (show Grow wy w6 from Below.grown (Grow.trans G5.out (Grow.refl w5)) g6 (Nat.le_trans G5.out.size (Grow.refl w5).size) (fun k hk => (O5.out.lt k hk).1)); have O6 := hid o6; clear o6 g6; have HY6 := hid (HY.out.next G6.out); have e0 := HY6.out.d0; have e1 := HY6.out.d1; have e2 := HY6.out.d2; have z0 := HY6.out.f0; have z1 := HY6.out.f1; have z2 := HY6.out.f2)
    )
  all_goals go_wp2_with fail
  all_goals (try simp only [Exit.inBlock, Exit.then])
  all_goals
    refine done_ret (fn := Try.f12) (p := 4) (g := w.heap.size + 1) (e := 30) (fr := (0, 0)) (v := .slice A6 (n + 1) k6) (n := 0) (b := true) rfl rfl Try.underlying30 rfl (by kernel_rfl) rfl ?hg ?hP
    case hg => first | exact done3 HY6.out.blk _ _ _ | exact (Grow.drew _).heap (done3 HY6.out.blk _ _ _)
    case hP => first | exact DonePost.intro rfl rfl ((Ints.of_own O6.out (by omega)).sets (.inr fun b off n' c h => by have := (O6.out.lt b (by rw [h]; rfl)).1; omega)) (HY6.out.new (Grow.refl _) _ _ _) | exact DonePost.intro rfl rfl (((Ints.of_own O6.out (by omega)).sets (.inr fun b off n' c h => by have := (O6.out.lt b (by rw [h]; rfl)).1; omega)).grow (Grow.drew _)) (Grow.trans (HY6.out.new (Grow.refl _) _ _ _) (Grow.drew _))
end Go.Proofs.Ytookcollmijjkaa
