/- The tree walked within a range: the body of a loop is called at each interval that a span meets. -/
import Derived.RangeFuncNested
import Derived.RangeFuncBound
import Derived.RangeFuncCalls
import Derived.RangeFuncLeaves
import Derived.Shelf.Abstract
import Derived.Shelf.RegionOpen
import Derived.OwnWalkIn
import Derived.TacticsInMore
import Derived.LoopNIn
import Derived.LoopIn
import Derived.Test.YthmbnffddpnehaaIWalk
import Derived.Test.YthmbnffddpnehaaFenceTail
namespace Go.Proofs.Ythmbnffddpnehaa
open Go.RowKit
set_option linter.unusedVariables false
set_option linter.unusedSimpArgs false
attribute [local go_sem] Oper.semAt_some
theorem room_of_none {F : Fence} (hd : F.depth = none) (k : Nat) : F.room k := fun d h => by rw [hd] at h; cases h
theorem RoundIn.anyDepth {F : Fence} (hd : F.depth = none) {m m' : Nat} {P : Program} {l : Nat} {f : FuncId} {tmps : Array Value} {assign body : Code} {w : World} {R : Ending → World → Prop}
    (h : RoundIn F m P l f tmps assign body w R) : RoundIn F m' P l f tmps assign body w R := ⟨h.1, fun c cs _ => h.2 c cs (room_of_none hd _)⟩
theorem YieldAt.anyDepth {F : Fence} (hd : F.depth = none) {m : Nat} (m' : Nat) {P : Program} {l : Nat} {args : Array Value} {W : World} {R : Ending → World → Prop} (h : YieldAt F m P l args W R) : YieldAt F m' P l args W R := by
  obtain ⟨fn, tmps, assign, body, hy, hR⟩ := h
  exact ⟨fn, tmps, assign, body, hy, RoundIn.anyDepth hd hR⟩
/-- The nodes that were there are as they were. -/
def KeepN (W W' : World) : Prop := ∀ (k : Nat) (cs : Array Value), W.heap[k]? = some (.cells cs 84 (0, 0)) → W'.heap[k]? = some (.cells cs 84 (0, 0))
theorem KeepN.refl (W : World) : KeepN W W := fun _ _ h => h
theorem KeepN.trans {A B C : World} (h : KeepN A B) (k : KeepN B C) : KeepN A C := fun j cs hj => k j cs (h j cs hj)
theorem Tr.In.keepN {W W' : World} (h : KeepN W W') : ∀ {T : Tr}, T.In W → T.In W'
  | .nil, _ => trivial
  | .node b x l r, ⟨h1, h2, h3⟩ => ⟨h _ _ h1, h2.keepN h, h3.keepN h⟩
def yieldArgs (x : It) : Array Value := #[.int .i64 x.id, .agg #[.int .i64 x.f, .int .i64 x.t, .string x.v]]
def WalkPost (T : Tr) (f t : Int) (J Jx : List It → World → Prop) (pre : List It) (W : World) (e : Ending) (W' : World) : Prop :=
  (e = .returned (.bool true) ∧ J (pre ++ Tr.walkT f t T) W' ∧ KeepN W W') ∨ (e = .returned (.bool false) ∧ ∃ q, q <+: Tr.walkT f t T ∧ Jx (pre ++ q) W')
set_option maxRecDepth 100000 in
set_option maxHeartbeats 4000000 in
theorem walkY_in (l N : Nat) (f t : Int) (J Jx : List It → World → Prop) (hJd : ∀ pre W, J pre W → J pre W.drew)
    (hY : ∀ m pre x W, J pre W → pre.length < N → YieldAt Fence.wide m Try.prog l (yieldArgs x) W fun e W' => (e = .returned (.bool true) ∧ J (pre ++ [x]) W' ∧ KeepN W W') ∨ (e = .returned (.bool false) ∧ Jx (pre ++ [x]) W')) (T : Tr) :
    ∀ (n : Nat) (pre : List It) (W : World), T.In W → J pre W → pre.length + (Tr.walkT f t T).length ≤ N →
      CallsIn Fence.wide n Try.prog 42 #[T.ptr, .int .i64 f, .int .i64 t, .func (.yield l) #[] #[]] W (WalkPost T f t J Jx pre W) := by
  induction T with
  | nil =>
    intro n pre W hT hJ hN
    simp only [Tr.ptr]
    have HJ := hid hJ
    clear hJ
    refine callsIn_of_wp Try.func42 rfl trivial ?_ rfl
    simp only [Try.ntmps42, List.size_toArray, List.length_cons, List.length_nil, Nat.reduceAdd, Nat.reduceSub, Array.replicate_succ, Array.replicate_zero, List.push_toArray, List.append_toArray, List.nil_append, List.cons_append]
    gi_wp2
    go_ret
    exact .inl ⟨rfl, by simpa [Tr.walkT] using HJ.out, KeepN.refl _⟩
  | node b x tl tr ihl ihr =>
    intro n pre W hT hJ hN
    by_cases hlt : (Tr.node b x tl tr).last < f
    · obtain ⟨hb, -, -, -, -, c4, -, -, -⟩ := hT.1.cells
      have HE := hid (show Tr.walkT f t (.node b x tl tr) = [] by simp only [Tr.walkT]; rw [if_pos hlt])
      generalize (Tr.node b x tl tr).last = la at *
      simp only [Tr.ptr]
      have HJ := hid hJ
      clear hJ hT hN ihl ihr
      refine callsIn_of_wp Try.func42 rfl trivial ?_ rfl
      simp only [Try.ntmps42, List.size_toArray, List.length_cons, List.length_nil, Nat.reduceAdd, Nat.reduceSub, Array.replicate_succ, Array.replicate_zero, List.push_toArray, List.append_toArray, List.nil_append, List.cons_append]
      gi_wp2
      go_ret
      exact .inl ⟨rfl, by rw [HE.out, List.append_nil]; exact HJ.out, KeepN.refl _⟩
    · have hE := Tr.walkT_on f t b x tl tr hlt
      have HE := hid hE
      rw [hE] at hN
      clear hE
      have hlN : pre.length + (Tr.walkT f t tl).length ≤ N := by
        simp only [List.length_append] at hN
        omega
      obtain ⟨hN1, hL1, hR1⟩ := hT
      obtain ⟨hb, -, -, -, -, c4, -, c6, -⟩ := hN1.cells
      generalize hla : (Tr.node b x tl tr).last = la at *
      obtain ⟨ul, hul⟩ := tl.ptr_form
      obtain ⟨ur, hur⟩ := tr.ptr_form
      rw [hul] at c6 ihl
      rw [hur] at ihr
      have HL := hid (fun n => ihl n pre W hL1 hJ hlN)
      unfold WalkPost at HL
      have HN1 := hid (And.intro hN1 (And.intro hL1 hR1))
      simp only [Tr.ptr]
      by_cases htx : t < x.f
      · obtain ⟨xi, xf, xt, xv⟩ := x
        try dsimp only at htx hN
        have HX := hid htx
        have HD := hid (fun W1 (k : KeepN W W1) => (NodeAt.cells (w := W1) (k _ _ HN1.out.1)).2.1)
        have HD2 := hid (fun W1 (k : KeepN W W1) => (NodeAt.cells (w := W1) (k _ _ HN1.out.1)).1)
        clear hN1 hL1 hR1 hJ hul hur ihl ihr hlN hN hla
        refine callsIn_of_wp Try.func42 rfl trivial ?_ rfl
        simp only [Try.ntmps42, List.size_toArray, List.length_cons, List.length_nil, Nat.reduceAdd, Nat.reduceSub, Array.replicate_succ, Array.replicate_zero, List.push_toArray, List.append_toArray, List.nil_append, List.cons_append]
        gi_wp2
        refine ⟨trivial, fun h => (by cases h), (HL.out _).mono ?_⟩
        rintro e W1 (⟨rfl, j1, k1⟩ | ⟨rfl, q, hq, jx⟩)
        · have d0 := HD.out W1 k1
          have hb1 := HD2.out W1 k1
          try dsimp only at d0
          have J1 := hid (And.intro j1 k1)
          clear j1 k1
          gi_wp2
          go_ret
          refine .inl ⟨rfl, ?_, J1.out.2⟩
          rw [HE.out, if_pos HX.out, List.append_nil]
          exact J1.out.1
        · have J1 := hid (And.intro hq jx)
          clear hq jx
          gi_wp2
          go_ret
          refine .inr ⟨rfl, q, ?_, J1.out.2⟩
          rw [HE.out]
          exact J1.out.1.trans (List.prefix_append _ _)
      · have HX := hid htx
        have HR := hid ihr
        by_cases hft : f ≤ x.t
        · have HY := hid hft
          have hE2 : Tr.walkT f t (.node b x tl tr) = Tr.walkT f t tl ++ ([x] ++ Tr.walkT f t tr) := by rw [HE.out, if_neg htx, if_pos hft]
          have hN2 : pre.length + (Tr.walkT f t tl).length + 1 + (Tr.walkT f t tr).length ≤ N := by
            rw [← HE.out, hE2] at hN
            simp only [List.length_append, List.length_cons, List.length_nil] at hN
            omega
          have HE2 := hid hE2
          have HN2 := hid hN2
          have HYY := hid (fun m W1 (j1 : J (pre ++ Tr.walkT f t tl) W1) => hY m (pre ++ Tr.walkT f t tl) x W1.drew (hJd _ _ j1) (by rw [List.length_append]; omega))
          obtain ⟨xi, xf, xt, xv⟩ := x
          try dsimp only at htx hft
          have HD := hid (fun W1 (k : KeepN W W1) => (NodeAt.cells (w := W1) (k _ _ HN1.out.1)))
          clear hN1 hL1 hR1 hJ hul ihl ihr hlN hN hN2 hE2
          refine callsIn_of_wp Try.func42 rfl trivial ?_ rfl
          simp only [Try.ntmps42, List.size_toArray, List.length_cons, List.length_nil, Nat.reduceAdd, Nat.reduceSub, Array.replicate_succ, Array.replicate_zero, List.push_toArray, List.append_toArray, List.nil_append, List.cons_append]
          gi_wp2
          refine ⟨trivial, fun h => (by cases h), (HL.out _).mono ?_⟩
          rintro e W1 (⟨rfl, j1, k1⟩ | ⟨rfl, q, hq, jx⟩)
          · obtain ⟨hb1, d0, d1, d2, d3, -, -, -, d7⟩ := HD.out W1 k1
            rw [hur] at d7
            try dsimp only at d0 d1 d2 d3
            obtain ⟨fn, tmps, assign, body, hy, hR⟩ := HYY.out (n - 1) W1 j1
            simp only [yieldArgs] at hy
            have J1 := hid (And.intro j1 k1)
            have HRR := hid hR
            clear j1 k1 hR
            gi_wp2
            refine wpIn_region_still_tail 17 (by kernel_rfl) (by kernel_rfl) ?_
            simp only [List.take_succ_cons, List.take_zero, List.drop_succ_cons, List.drop_zero]
            repeat still_step
            (try refine wpStill_nil ?_)
            gi_wp2
            refine ⟨fun h => (by cases h), HRR.out.mono ?_⟩
            rintro e W2 (⟨rfl, j2, k2⟩ | ⟨rfl, jx⟩)
            · have k3 : KeepN W W2 := J1.out.2.trans (KeepN.trans (B := W1.drew) (fun _ _ h => h) k2)
              obtain ⟨hb2, -, -, -, -, -, -, -, e7⟩ := HD.out W2 k3
              rw [hur] at e7
              have HR2 := hid (HR.out (n - 1) _ W2 (HN1.out.2.2.keepN k3) j2 (by have := HN2.out; simp only [List.length_append, List.length_cons, List.length_nil]; omega))
              unfold WalkPost at HR2
              have K3 := hid k3
              clear k2 k3 j2 d0 d1 d2 d3 d7 hb1 HR
              gi_wp2
              refine ⟨trivial, fun h => (by cases h), HR2.out.mono ?_⟩
              rintro e W3 (⟨rfl, j3, k4⟩ | ⟨rfl, q, hq, jx⟩)
              · have J3 := hid (And.intro j3 k4)
                clear j3 k4
                gi_wp2
                go_ret
                refine .inl ⟨rfl, ?_, K3.out.trans J3.out.2⟩
                rw [HE2.out]
                have := J3.out.1
                simpa [List.append_assoc] using this
              · have J3 := hid (And.intro hq jx)
                clear hq jx
                gi_wp2
                go_ret
                refine .inr ⟨rfl, Tr.walkT f t tl ++ ([⟨xi, xf, xt, xv⟩] ++ q), ?_, ?_⟩
                · rw [HE2.out]
                  obtain ⟨r, hr⟩ := J3.out.1
                  exact ⟨r, by rw [← hr]; simp⟩
                · have := J3.out.2
                  simpa [List.append_assoc] using this
            · have J3 := hid jx
              clear jx d0 d1 d2 d3 d7 hb1 HR
              gi_wp2
              go_ret
              refine .inr ⟨rfl, Tr.walkT f t tl ++ [⟨xi, xf, xt, xv⟩], ?_, ?_⟩
              · rw [HE2.out]
                exact ⟨Tr.walkT f t tr, by simp⟩
              · have := J3.out
                simpa [List.append_assoc] using this
          · have J1 := hid (And.intro hq jx)
            clear hq jx
            gi_wp2
            go_ret
            refine .inr ⟨rfl, q, ?_, J1.out.2⟩
            rw [HE.out]
            exact J1.out.1.trans (List.prefix_append _ _)
        · have HY := hid hft
          have hE2 : Tr.walkT f t (.node b x tl tr) = Tr.walkT f t tl ++ Tr.walkT f t tr := by rw [HE.out, if_neg htx, if_neg hft, List.nil_append]
          have hN2 : pre.length + (Tr.walkT f t tl).length + (Tr.walkT f t tr).length ≤ N := by
            rw [← HE.out, hE2] at hN
            simp only [List.length_append] at hN
            omega
          have HE2 := hid hE2
          have HN2 := hid hN2
          have HJD := hid hJd
          obtain ⟨xi, xf, xt, xv⟩ := x
          try dsimp only at htx hft
          have hdf0 : decide (f ≤ xt) = false := decide_eq_false (by exact hft)
          have HDF := hid hdf0
          have HD := hid (fun W1 (k : KeepN W W1) => (NodeAt.cells (w := W1) (k _ _ HN1.out.1)))
          clear hN1 hL1 hR1 hJ hul ihl ihr hlN hN hN2 hE2 hdf0
          refine callsIn_of_wp Try.func42 rfl trivial ?_ rfl
          simp only [Try.ntmps42, List.size_toArray, List.length_cons, List.length_nil, Nat.reduceAdd, Nat.reduceSub, Array.replicate_succ, Array.replicate_zero, List.push_toArray, List.append_toArray, List.nil_append, List.cons_append]
          gi_wp2
          refine ⟨trivial, fun h => (by cases h), (HL.out _).mono ?_⟩
          rintro e W1 (⟨rfl, j1, k1⟩ | ⟨rfl, q, hq, jx⟩)
          · obtain ⟨hb1, d0, d1, -, -, -, -, -, d7⟩ := HD.out W1 k1
            rw [hur] at d7
            try dsimp only at d0 d1
            have HR2 := hid (HR.out (n - 1) _ W1.drew (HN1.out.2.2.keepN (show KeepN W W1.drew from fun k cs h => k1 k cs h)) (HJD.out _ _ j1) (by have := HN2.out; simp only [List.length_append]; omega))
            unfold WalkPost at HR2
            have K1 := hid k1
            clear j1 k1 HR
            gi_wp2
            have hdf := HDF.out
            refine wpIn_region_still_tail 17 (by kernel_rfl) (by kernel_rfl) ?_
            simp only [List.take_succ_cons, List.take_zero, List.drop_succ_cons, List.drop_zero]
            iterate 8 still_step
            simp only [wpStill]
            go_simp
            clear hdf
            clear d0 d1
            gi_wp2
            refine ⟨fun _ _ => trivial, ?_⟩
            gi_wp2
            refine ⟨trivial, fun h => (by cases h), HR2.out.mono ?_⟩
            rintro e W3 (⟨rfl, j3, k4⟩ | ⟨rfl, q, hq, jx⟩)
            · have J3 := hid (And.intro j3 k4)
              clear j3 k4
              gi_wp2
              go_ret
              refine .inl ⟨rfl, ?_, K1.out.trans (KeepN.trans (B := W1.drew) (fun _ _ h => h) J3.out.2)⟩
              rw [HE2.out]
              have := J3.out.1
              simpa [List.append_assoc] using this
            · have J3 := hid (And.intro hq jx)
              clear hq jx
              gi_wp2
              go_ret
              refine .inr ⟨rfl, Tr.walkT f t tl ++ q, ?_, ?_⟩
              · rw [HE2.out]
                obtain ⟨r, hr⟩ := J3.out.1
                exact ⟨r, by rw [← hr]; simp⟩
              · have := J3.out.2
                simpa [List.append_assoc] using this
          · have J1 := hid (And.intro hq jx)
            clear hq jx
            gi_wp2
            go_ret
            refine .inr ⟨rfl, q, ?_, J1.out.2⟩
            rw [HE.out]
            exact J1.out.1.trans (List.prefix_append _ _)
end Go.Proofs.Ythmbnffddpnehaa
