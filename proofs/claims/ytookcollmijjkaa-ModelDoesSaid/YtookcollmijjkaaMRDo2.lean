/- What the reference's Do computes: numbers and sets. -/
import Derived.Test.YtookcollmijjkaaMRDo
namespace Go.Proofs.Ytookcollmijjkaa
open Go.RowKit
set_option linter.unusedVariables false
set_option linter.unusedSimpArgs false
theorem Ints.home {w : World} {v : Value} {xs : List Int} (h : Ints w v xs) {b off n c : Nat} (e : v = .slice (some ⟨b, off, none⟩) n c) : xs = [] ∨ b < w.heap.size := by
  by_cases h0 : xs.length = 0
  · exact .inl (List.eq_nil_of_length_eq_zero h0)
  · obtain ⟨p, cap, rfl, hc⟩ := h.at
    obtain ⟨b', off', rfl, hcell⟩ := hc 0 (by omega)
    cases e
    exact .inr (World.block_lt_of_cell? w _ hcell)
theorem Ints.same {w w' : World} {v : Value} {xs ys : List Int} (h : Ints w v xs) (h' : Ints w' v ys) : xs = [] ∨ xs.length = ys.length := by
  obtain ⟨p, cap, e1, _⟩ := h.at
  obtain ⟨q, cap', e2, _⟩ := h'.at
  rw [e1] at e2
  injection e2 with _ e3 _
  exact .inr e3
theorem Ints.sets {w : World} {v : Value} {xs : List Int} (h : Ints w v xs) {g : Nat} {a b c : Value} (hf : xs = [] ∨ ∀ b off n c, v = .slice (some ⟨b, off, none⟩) n c → b ≠ g) : Ints (((w.setCell ⟨g, 0, none⟩ a).setCell ⟨g, 1, none⟩ b).setCell ⟨g, 2, none⟩ c) v xs := by
  rcases hf with rfl | hf
  · obtain ⟨p, cap, rfl, hl, hc, hcap⟩ := h
    exact ⟨p, cap, rfl, hl, (fun h => by simp at h), hcap⟩
  · exact ((h.set _ _ _ hf).set _ _ _ hf).set _ _ _ hf
theorem Ints.apart {w : World} {p : Option Addr} {n c g : Nat} {xs : List Int} (h : Ints w (.slice p n c) xs) (hg : w.heap.size ≤ g) : xs = [] ∨ ∀ b off n' c', Value.slice p n c = .slice (some ⟨b, off, none⟩) n' c' → b ≠ g := by
  by_cases h0 : xs = []
  · exact .inl h0
  · refine .inr fun b off n' c' e => ?_
    rcases h.home e with h1 | h1
    · exact absurd h1 h0
    · omega
set_option maxRecDepth 100000 in
set_option maxHeartbeats 4000000 in
theorem RDo_num1 (id proc obj meth arg sec : Int) (done : Bool) (res inv ret : Int) (xs : List Int) (r : List Int × Int × Bool) (v : Value) (w : World) (hv : Ints w v xs) (hN : ∀ w, Ints w v xs → Calls Try.prog 27 #[v, .agg #[.int .i64 id, .int .i64 proc, .int .i64 obj, .int .i64 1, .int .i64 meth, .int .i64 arg, .int .i64 sec, .bool done, .int .i64 res, .int .i64 inv, .int .i64 ret]] w (NumPost r v w)) :
    Calls Try.prog 12 #[v, .agg #[.int .i64 id, .int .i64 proc, .int .i64 obj, .int .i64 1, .int .i64 meth, .int .i64 arg, .int .i64 sec, .bool done, .int .i64 res, .int .i64 inv, .int .i64 ret]] w (DonePost r w) := by
  have HYF := hid (fun nq => Own2.mk' (Grow.drewNM (Grow.refl ((w.alloc (.cells #[.int .i64 id, .int .i64 proc, .int .i64 obj, .int .i64 1, .int .i64 meth, .int .i64 arg, .int .i64 sec, .bool done, .int .i64 res, .int .i64 inv, .int .i64 ret] 27)).alloc (.cells #[.slice none 0 0, .int .i64 0, .bool false] 30))) nq))
  have hlv := hid (show ∀ b off n c, v = .slice (some ⟨b, off, none⟩) n c → xs = [] ∨ b < w.heap.size from fun b off n c h => hv.home h)
  have HV := hid hv
  have HN := hid hN
  clear hv hN
  go_enter Try.func12, Try.ntmps12
  go_wp2_with fail
  go_quiet (fail)
  go_wp2_with fail
  refine (HN.out _ (HV.out.grow (Grow.drewNM (Grow.trans (Grow.alloc _ _) (Grow.alloc _ _)) _))).mono ?_
  rintro e w3 ⟨x, rfl, ix, b3, hx⟩
  obtain ⟨px, cx, rfl, -⟩ := ix.at
  have HY := hid ((HYF.out nq).next b3)
  have hsz2 : ((w.alloc (.cells #[.int .i64 id, .int .i64 proc, .int .i64 obj, .int .i64 1, .int .i64 meth, .int .i64 arg, .int .i64 sec, .bool done, .int .i64 res, .int .i64 inv, .int .i64 ret] 27)).alloc (.cells #[.slice none 0 0, .int .i64 0, .bool false] 30)).heap.size = w.heap.size + 2 := by simp
  have HX := hid (show Ints w3 (.slice px r.1.length cx) r.1 ∧ (r.1 = [] ∨ ∀ b off n c, Value.slice px r.1.length cx = .slice (some ⟨b, off, none⟩) n c → b ≠ w.heap.size + 1) from ⟨ix, by
    rcases hx with hx | hx
    · rw [hx] at ix
      by_cases he : r.1 = []
      · exact .inl he
      · refine .inr fun b off n c h => ?_
        rcases ix.same HV.out with e | e
        · exact absurd e he
        · rcases hlv.out b off n c (hx.symm.trans h) with e2 | e2
          · exact absurd (List.eq_nil_of_length_eq_zero (by rw [e, e2]; rfl)) he
          · omega
    · exact .inr fun b off n c h => by have := hx b off n c h; simp at this; omega⟩)
  clear HYF hx ix hsz2
  have d0 := HY.out.d0
  have d1 := HY.out.d1
  have d2 := HY.out.d2
  have f0 := HY.out.f0
  have f1 := HY.out.f1
  have f2 := HY.out.f2
  have c1 := HY.out.c1
  have c5 := HY.out.c5
  have hlt := HY.out.lt
  go_wp2_with fail
  (try simp only [Exit.inBlock, Exit.then])
  refine done_ret (fn := Try.f12) (p := 4) (g := w.heap.size + 1) (e := 30) (fr := (0, 0)) (v := .slice px r.1.length cx) (n := r.2.1) (b := r.2.2) rfl rfl Try.underlying30 rfl (by kernel_rfl) rfl ?hg ?hP
  case hg => with_reducible exact done3 HY.out.blk _ _ _
  case hP => exact DonePost.intro rfl rfl (HX.out.1.sets HX.out.2) (HY.out.new (Grow.refl _) _ _ _)
set_option maxRecDepth 100000 in
set_option maxHeartbeats 4000000 in
theorem RDo_num2 (id proc obj meth arg sec : Int) (done : Bool) (res inv ret : Int) (xs : List Int) (r : List Int × Int × Bool) (v : Value) (w : World) (hv : Ints w v xs) (hN : ∀ w, Ints w v xs → Calls Try.prog 27 #[v, .agg #[.int .i64 id, .int .i64 proc, .int .i64 obj, .int .i64 2, .int .i64 meth, .int .i64 arg, .int .i64 sec, .bool done, .int .i64 res, .int .i64 inv, .int .i64 ret]] w (NumPost r v w)) :
    Calls Try.prog 12 #[v, .agg #[.int .i64 id, .int .i64 proc, .int .i64 obj, .int .i64 2, .int .i64 meth, .int .i64 arg, .int .i64 sec, .bool done, .int .i64 res, .int .i64 inv, .int .i64 ret]] w (DonePost r w) := by
  have HYF := hid (fun nq => Own2.mk' (Grow.drewNM (Grow.refl ((w.alloc (.cells #[.int .i64 id, .int .i64 proc, .int .i64 obj, .int .i64 2, .int .i64 meth, .int .i64 arg, .int .i64 sec, .bool done, .int .i64 res, .int .i64 inv, .int .i64 ret] 27)).alloc (.cells #[.slice none 0 0, .int .i64 0, .bool false] 30))) nq))
  have hlv := hid (show ∀ b off n c, v = .slice (some ⟨b, off, none⟩) n c → xs = [] ∨ b < w.heap.size from fun b off n c h => hv.home h)
  have HV := hid hv
  have HN := hid hN
  clear hv hN
  go_enter Try.func12, Try.ntmps12
  go_wp2_with fail
  go_quiet (fail)
  go_wp2_with fail
  refine (HN.out _ (HV.out.grow (Grow.drewNM (Grow.trans (Grow.alloc _ _) (Grow.alloc _ _)) _))).mono ?_
  rintro e w3 ⟨x, rfl, ix, b3, hx⟩
  obtain ⟨px, cx, rfl, -⟩ := ix.at
  have HY := hid ((HYF.out nq).next b3)
  have hsz2 : ((w.alloc (.cells #[.int .i64 id, .int .i64 proc, .int .i64 obj, .int .i64 2, .int .i64 meth, .int .i64 arg, .int .i64 sec, .bool done, .int .i64 res, .int .i64 inv, .int .i64 ret] 27)).alloc (.cells #[.slice none 0 0, .int .i64 0, .bool false] 30)).heap.size = w.heap.size + 2 := by simp
  have HX := hid (show Ints w3 (.slice px r.1.length cx) r.1 ∧ (r.1 = [] ∨ ∀ b off n c, Value.slice px r.1.length cx = .slice (some ⟨b, off, none⟩) n c → b ≠ w.heap.size + 1) from ⟨ix, by
    rcases hx with hx | hx
    · rw [hx] at ix
      by_cases he : r.1 = []
      · exact .inl he
      · refine .inr fun b off n c h => ?_
        rcases ix.same HV.out with e | e
        · exact absurd e he
        · rcases hlv.out b off n c (hx.symm.trans h) with e2 | e2
          · exact absurd (List.eq_nil_of_length_eq_zero (by rw [e, e2]; rfl)) he
          · omega
    · exact .inr fun b off n c h => by have := hx b off n c h; simp at this; omega⟩)
  clear HYF hx ix hsz2
  have d0 := HY.out.d0
  have d1 := HY.out.d1
  have d2 := HY.out.d2
  have f0 := HY.out.f0
  have f1 := HY.out.f1
  have f2 := HY.out.f2
  have c1 := HY.out.c1
  have c5 := HY.out.c5
  have hlt := HY.out.lt
  go_wp2_with fail
  (try simp only [Exit.inBlock, Exit.then])
  refine done_ret (fn := Try.f12) (p := 4) (g := w.heap.size + 1) (e := 30) (fr := (0, 0)) (v := .slice px r.1.length cx) (n := r.2.1) (b := r.2.2) rfl rfl Try.underlying30 rfl (by kernel_rfl) rfl ?hg ?hP
  case hg => with_reducible exact done3 HY.out.blk _ _ _
  case hP => exact DonePost.intro rfl rfl (HX.out.1.sets HX.out.2) (HY.out.new (Grow.refl _) _ _ _)
set_option maxRecDepth 100000 in
set_option maxHeartbeats 4000000 in
theorem RDo_h1 (id proc obj arg sec : Int) (done : Bool) (res inv ret : Int) (xs : List Int) (p : Option Addr) (n cap q : Nat) (w : World) (hv : Ints w (.slice p n cap) xs) (hd : decide (q < n) = true) (hW : ∀ w, Ints w (.slice p n cap) xs → Calls Try.prog 28 #[.slice p n cap, .int .i64 arg] w fun e w' => ∃ px cx, e = .returned (.slice px q cx) ∧ Grow w w') :
    Calls Try.prog 12 #[.slice p n cap, .agg #[.int .i64 id, .int .i64 proc, .int .i64 obj, .int .i64 5, .int .i64 12, .int .i64 arg, .int .i64 sec, .bool done, .int .i64 res, .int .i64 inv, .int .i64 ret]] w (DonePost (xs, 1, true) w) := by
  have HYF := hid (fun nq => Own2.mk' (Grow.drewNM (Grow.refl ((w.alloc (.cells #[.int .i64 id, .int .i64 proc, .int .i64 obj, .int .i64 5, .int .i64 12, .int .i64 arg, .int .i64 sec, .bool done, .int .i64 res, .int .i64 inv, .int .i64 ret] 27)).alloc (.cells #[.slice none 0 0, .int .i64 0, .bool false] 30))) nq))
  have hlv := hid (show xs = [] ∨ ∀ b off n' c, Value.slice p n cap = .slice (some ⟨b, off, none⟩) n' c → b ≠ w.heap.size + 1 from hv.apart (by omega))
  have HV := hid hv
  have HW := hid hW
  clear hv hW
  go_enter Try.func12, Try.ntmps12
  go_wp2_with fail
  go_quiet (fail)
  have HY := hid (HYF.out nq)
  generalize ((w.alloc (.cells #[.int .i64 id, .int .i64 proc, .int .i64 obj, .int .i64 5, .int .i64 12, .int .i64 arg, .int .i64 sec, .bool done, .int .i64 res, .int .i64 inv, .int .i64 ret] 27)).alloc (.cells #[.slice none 0 0, .int .i64 0, .bool false] 30)).drewN nq = wy at *
  clear HYF
  have d0 := HY.out.d0
  have d1 := HY.out.d1
  have d2 := HY.out.d2
  have f0 := HY.out.f0
  have f1 := HY.out.f1
  have f2 := HY.out.f2
  have c1 := HY.out.c1
  have c5 := HY.out.c5
  have hlt := HY.out.lt
  go_wp2_with fail
  go_quiet (fail)
  go_wp2_with fail
  refine (HW.out _ (HV.out.grow (Grow.drewNM HY.out.grow _))).mono ?_
  rintro e w3 ⟨px, cx, rfl, b3⟩
  have HY3 := hid (HY.out.next (Grow.trans (Grow.drewNM (Grow.refl wy) _) b3))
  clear d0 d1 d2 f0 f1 f2 c1 c5 hlt HY b3
  have d0 := HY3.out.d0
  have d1 := HY3.out.d1
  have d2 := HY3.out.d2
  have f0 := HY3.out.f0
  have f1 := HY3.out.f1
  have f2 := HY3.out.f2
  have c1 := HY3.out.c1
  have c5 := HY3.out.c5
  have hlt := HY3.out.lt
  go_wp2_with fail
  (try simp only [Exit.inBlock, Exit.then])
  refine done_ret (fn := Try.f12) (p := 4) (g := w.heap.size + 1) (e := 30) (fr := (0, 0)) (v := (.slice p n cap)) (n := 1) (b := true) rfl rfl Try.underlying30 rfl (by kernel_rfl) rfl ?hg ?hP
  case hg => with_reducible exact done3 HY3.out.blk _ _ _
  case hP => exact DonePost.intro rfl rfl ((HV.out.grow HY3.out.grow).sets hlv.out) (HY3.out.new (Grow.refl _) _ _ _)
set_option maxRecDepth 100000 in
set_option maxHeartbeats 4000000 in
theorem RDo_h0 (id proc obj arg sec : Int) (done : Bool) (res inv ret : Int) (xs : List Int) (p : Option Addr) (n cap q : Nat) (w : World) (hv : Ints w (.slice p n cap) xs) (hd : decide (q < n) = false) (hW : ∀ w, Ints w (.slice p n cap) xs → Calls Try.prog 28 #[.slice p n cap, .int .i64 arg] w fun e w' => ∃ px cx, e = .returned (.slice px q cx) ∧ Grow w w') :
    Calls Try.prog 12 #[.slice p n cap, .agg #[.int .i64 id, .int .i64 proc, .int .i64 obj, .int .i64 5, .int .i64 12, .int .i64 arg, .int .i64 sec, .bool done, .int .i64 res, .int .i64 inv, .int .i64 ret]] w (DonePost (xs, 0, true) w) := by
  have HYF := hid (fun nq => Own2.mk' (Grow.drewNM (Grow.refl ((w.alloc (.cells #[.int .i64 id, .int .i64 proc, .int .i64 obj, .int .i64 5, .int .i64 12, .int .i64 arg, .int .i64 sec, .bool done, .int .i64 res, .int .i64 inv, .int .i64 ret] 27)).alloc (.cells #[.slice none 0 0, .int .i64 0, .bool false] 30))) nq))
  have hlv := hid (show xs = [] ∨ ∀ b off n' c, Value.slice p n cap = .slice (some ⟨b, off, none⟩) n' c → b ≠ w.heap.size + 1 from hv.apart (by omega))
  have HV := hid hv
  have HW := hid hW
  clear hv hW
  go_enter Try.func12, Try.ntmps12
  go_wp2_with fail
  go_quiet (fail)
  have HY := hid (HYF.out nq)
  generalize ((w.alloc (.cells #[.int .i64 id, .int .i64 proc, .int .i64 obj, .int .i64 5, .int .i64 12, .int .i64 arg, .int .i64 sec, .bool done, .int .i64 res, .int .i64 inv, .int .i64 ret] 27)).alloc (.cells #[.slice none 0 0, .int .i64 0, .bool false] 30)).drewN nq = wy at *
  clear HYF
  have d0 := HY.out.d0
  have d1 := HY.out.d1
  have d2 := HY.out.d2
  have f0 := HY.out.f0
  have f1 := HY.out.f1
  have f2 := HY.out.f2
  have c1 := HY.out.c1
  have c5 := HY.out.c5
  have hlt := HY.out.lt
  go_wp2_with fail
  go_quiet (fail)
  go_wp2_with fail
  refine (HW.out _ (HV.out.grow (Grow.drewNM HY.out.grow _))).mono ?_
  rintro e w3 ⟨px, cx, rfl, b3⟩
  have HY3 := hid (HY.out.next (Grow.trans (Grow.drewNM (Grow.refl wy) _) b3))
  clear d0 d1 d2 f0 f1 f2 c1 c5 hlt HY b3
  have d0 := HY3.out.d0
  have d1 := HY3.out.d1
  have d2 := HY3.out.d2
  have f0 := HY3.out.f0
  have f1 := HY3.out.f1
  have f2 := HY3.out.f2
  have c1 := HY3.out.c1
  have c5 := HY3.out.c5
  have hlt := HY3.out.lt
  go_wp2_with fail
  (try simp only [Exit.inBlock, Exit.then])
  refine done_ret (fn := Try.f12) (p := 4) (g := w.heap.size + 1) (e := 30) (fr := (0, 0)) (v := (.slice p n cap)) (n := 0) (b := true) rfl rfl Try.underlying30 rfl (by kernel_rfl) rfl ?hg ?hP
  case hg => with_reducible exact done3 HY3.out.blk _ _ _
  case hP => exact DonePost.intro rfl rfl ((HV.out.grow HY3.out.grow).sets hlv.out) (HY3.out.new (Grow.refl _) _ _ _)
set_option maxRecDepth 100000 in
set_option maxHeartbeats 4000000 in
theorem RDo_a1 (id proc obj arg sec : Int) (done : Bool) (res inv ret : Int) (xs : List Int) (p : Option Addr) (n cap q : Nat) (w : World) (hv : Ints w (.slice p n cap) xs) (hd : decide (q < n) = true) (hW : ∀ w, Ints w (.slice p n cap) xs → Calls Try.prog 28 #[.slice p n cap, .int .i64 arg] w fun e w' => ∃ px cx, e = .returned (.slice px q cx) ∧ Grow w w') :
    Calls Try.prog 12 #[.slice p n cap, .agg #[.int .i64 id, .int .i64 proc, .int .i64 obj, .int .i64 5, .int .i64 10, .int .i64 arg, .int .i64 sec, .bool done, .int .i64 res, .int .i64 inv, .int .i64 ret]] w (DonePost (xs, 0, true) w) := by
  have HYF := hid (fun nq => Own2.mk' (Grow.drewNM (Grow.refl ((w.alloc (.cells #[.int .i64 id, .int .i64 proc, .int .i64 obj, .int .i64 5, .int .i64 10, .int .i64 arg, .int .i64 sec, .bool done, .int .i64 res, .int .i64 inv, .int .i64 ret] 27)).alloc (.cells #[.slice none 0 0, .int .i64 0, .bool false] 30))) nq))
  have hlv := hid (show xs = [] ∨ ∀ b off n' c, Value.slice p n cap = .slice (some ⟨b, off, none⟩) n' c → b ≠ w.heap.size + 1 from hv.apart (by omega))
  have HV := hid hv
  have HW := hid hW
  clear hv hW
  go_enter Try.func12, Try.ntmps12
  go_wp2_with fail
  go_quiet (fail)
  have HY := hid (HYF.out nq)
  generalize ((w.alloc (.cells #[.int .i64 id, .int .i64 proc, .int .i64 obj, .int .i64 5, .int .i64 10, .int .i64 arg, .int .i64 sec, .bool done, .int .i64 res, .int .i64 inv, .int .i64 ret] 27)).alloc (.cells #[.slice none 0 0, .int .i64 0, .bool false] 30)).drewN nq = wy at *
  clear HYF
  have d0 := HY.out.d0
  have d1 := HY.out.d1
  have d2 := HY.out.d2
  have f0 := HY.out.f0
  have f1 := HY.out.f1
  have f2 := HY.out.f2
  have c1 := HY.out.c1
  have c5 := HY.out.c5
  have hlt := HY.out.lt
  go_wp2_with fail
  go_quiet (fail)
  go_wp2_with fail
  refine (HW.out _ (HV.out.grow (Grow.drewNM HY.out.grow _))).mono ?_
  rintro e w3 ⟨px, cx, rfl, b3⟩
  have HY3 := hid (HY.out.next (Grow.trans (Grow.drewNM (Grow.refl wy) _) b3))
  clear d0 d1 d2 f0 f1 f2 c1 c5 hlt HY b3
  have d0 := HY3.out.d0
  have d1 := HY3.out.d1
  have d2 := HY3.out.d2
  have f0 := HY3.out.f0
  have f1 := HY3.out.f1
  have f2 := HY3.out.f2
  have c1 := HY3.out.c1
  have c5 := HY3.out.c5
  have hlt := HY3.out.lt
  go_wp2_with fail
  (try simp only [Exit.inBlock, Exit.then])
  refine done_ret (fn := Try.f12) (p := 4) (g := w.heap.size + 1) (e := 30) (fr := (0, 0)) (v := (.slice p n cap)) (n := 0) (b := true) rfl rfl Try.underlying30 rfl (by kernel_rfl) rfl ?hg ?hP
  case hg => with_reducible exact done3 HY3.out.blk _ _ _
  case hP => exact DonePost.intro rfl rfl ((HV.out.grow HY3.out.grow).sets hlv.out) (HY3.out.new (Grow.refl _) _ _ _)
set_option maxRecDepth 100000 in
set_option maxHeartbeats 4000000 in
theorem RDo_a0 (id proc obj arg sec : Int) (done : Bool) (res inv ret : Int) (xs : List Int) (p : Option Addr) (n cap q : Nat) (w : World) (hv : Ints w (.slice p n cap) xs) (hd : decide (q < n) = false) (hW : ∀ w, Ints w (.slice p n cap) xs → Calls Try.prog 28 #[.slice p n cap, .int .i64 arg] w fun e w' => ∃ px cx, e = .returned (.slice px q cx) ∧ Grow w w') (l : List Int) (hW2 : ∀ w, Ints w (.slice p n cap) xs → Calls Try.prog 29 #[.slice p n cap, .int .i64 arg] w fun e w' => ∃ x, e = .returned x ∧ Ints w' x l ∧ Grow w w' ∧ ∀ b off n c, x = .slice (some ⟨b, off, none⟩) n c → w.heap.size ≤ b) :
    Calls Try.prog 12 #[.slice p n cap, .agg #[.int .i64 id, .int .i64 proc, .int .i64 obj, .int .i64 5, .int .i64 10, .int .i64 arg, .int .i64 sec, .bool done, .int .i64 res, .int .i64 inv, .int .i64 ret]] w (DonePost (l, 1, true) w) := by
  have HYF := hid (fun nq => Own2.mk' (Grow.drewNM (Grow.refl ((w.alloc (.cells #[.int .i64 id, .int .i64 proc, .int .i64 obj, .int .i64 5, .int .i64 10, .int .i64 arg, .int .i64 sec, .bool done, .int .i64 res, .int .i64 inv, .int .i64 ret] 27)).alloc (.cells #[.slice none 0 0, .int .i64 0, .bool false] 30))) nq))
  have hlv := hid (show xs = [] ∨ ∀ b off n' c, Value.slice p n cap = .slice (some ⟨b, off, none⟩) n' c → b ≠ w.heap.size + 1 from hv.apart (by omega))
  have HV := hid hv
  have HW := hid hW
  have HW2 := hid hW2
  clear hW2
  clear hv hW
  go_enter Try.func12, Try.ntmps12
  go_wp2_with fail
  go_quiet (fail)
  have HY := hid (HYF.out nq)
  generalize ((w.alloc (.cells #[.int .i64 id, .int .i64 proc, .int .i64 obj, .int .i64 5, .int .i64 10, .int .i64 arg, .int .i64 sec, .bool done, .int .i64 res, .int .i64 inv, .int .i64 ret] 27)).alloc (.cells #[.slice none 0 0, .int .i64 0, .bool false] 30)).drewN nq = wy at *
  clear HYF
  have d0 := HY.out.d0
  have d1 := HY.out.d1
  have d2 := HY.out.d2
  have f0 := HY.out.f0
  have f1 := HY.out.f1
  have f2 := HY.out.f2
  have c1 := HY.out.c1
  have c5 := HY.out.c5
  have hlt := HY.out.lt
  go_wp2_with fail
  go_quiet (fail)
  go_wp2_with fail
  refine (HW.out _ (HV.out.grow (Grow.drewNM HY.out.grow _))).mono ?_
  rintro e w3 ⟨px, cx, rfl, b3⟩
  have HY3 := hid (HY.out.next (Grow.trans (Grow.drewNM (Grow.refl wy) _) b3))
  clear d0 d1 d2 f0 f1 f2 c1 c5 hlt HY b3
  have d0 := HY3.out.d0
  have d1 := HY3.out.d1
  have d2 := HY3.out.d2
  have f0 := HY3.out.f0
  have f1 := HY3.out.f1
  have f2 := HY3.out.f2
  have c1 := HY3.out.c1
  have c5 := HY3.out.c5
  have hlt := HY3.out.lt
  go_wp2_with fail
  refine (HW2.out _ (HV.out.grow HY3.out.grow)).mono ?_
  rintro e w4 ⟨x, rfl, ix, b4, hx⟩
  obtain ⟨px4, cx4, rfl, -⟩ := ix.at
  have HY4 := hid (HY3.out.next b4)
  have HX := hid (show Ints w4 (.slice px4 l.length cx4) l ∧ (l = [] ∨ ∀ b off n c, Value.slice px4 l.length cx4 = .slice (some ⟨b, off, none⟩) n c → b ≠ w.heap.size + 1) from ⟨ix, .inr fun b off n c h => by have := hx b off n c h; omega⟩)
  clear d0 d1 d2 f0 f1 f2 c1 c5 hlt HY3 b4 ix hx
  have d0 := HY4.out.d0
  have d1 := HY4.out.d1
  have d2 := HY4.out.d2
  have f0 := HY4.out.f0
  have f1 := HY4.out.f1
  have f2 := HY4.out.f2
  have c1 := HY4.out.c1
  have c5 := HY4.out.c5
  have hlt := HY4.out.lt
  go_wp2_with fail
  (try simp only [Exit.inBlock, Exit.then])
  refine done_ret (fn := Try.f12) (p := 4) (g := w.heap.size + 1) (e := 30) (fr := (0, 0)) (v := (.slice px4 l.length cx4)) (n := 1) (b := true) rfl rfl Try.underlying30 rfl (by kernel_rfl) rfl ?hg ?hP
  case hg => with_reducible exact done3 HY4.out.blk _ _ _
  case hP => exact DonePost.intro rfl rfl (HX.out.1.sets HX.out.2) (HY4.out.new (Grow.refl _) _ _ _)
set_option maxRecDepth 100000 in
set_option maxHeartbeats 4000000 in
theorem RDo_m1 (id proc obj arg sec : Int) (done : Bool) (res inv ret : Int) (xs : List Int) (p : Option Addr) (n cap q : Nat) (w : World) (hv : Ints w (.slice p n cap) xs) (hd : decide (q < n) = true) (hW : ∀ w, Ints w (.slice p n cap) xs → Calls Try.prog 28 #[.slice p n cap, .int .i64 arg] w fun e w' => ∃ px cx, e = .returned (.slice px q cx) ∧ Grow w w') (l : List Int) (hW2 : ∀ w, Ints w (.slice p n cap) xs → Calls Try.prog 28 #[.slice p n cap, .int .i64 arg] w fun e w' => ∃ x, e = .returned x ∧ Ints w' x l ∧ Grow w w' ∧ ∀ b off n c, x = .slice (some ⟨b, off, none⟩) n c → w.heap.size ≤ b) :
    Calls Try.prog 12 #[.slice p n cap, .agg #[.int .i64 id, .int .i64 proc, .int .i64 obj, .int .i64 5, .int .i64 11, .int .i64 arg, .int .i64 sec, .bool done, .int .i64 res, .int .i64 inv, .int .i64 ret]] w (DonePost (l, 1, true) w) := by
  have HYF := hid (fun nq => Own2.mk' (Grow.drewNM (Grow.refl ((w.alloc (.cells #[.int .i64 id, .int .i64 proc, .int .i64 obj, .int .i64 5, .int .i64 11, .int .i64 arg, .int .i64 sec, .bool done, .int .i64 res, .int .i64 inv, .int .i64 ret] 27)).alloc (.cells #[.slice none 0 0, .int .i64 0, .bool false] 30))) nq))
  have hlv := hid (show xs = [] ∨ ∀ b off n' c, Value.slice p n cap = .slice (some ⟨b, off, none⟩) n' c → b ≠ w.heap.size + 1 from hv.apart (by omega))
  have HV := hid hv
  have HW := hid hW
  have HW2 := hid hW2
  clear hW2
  clear hv hW
  go_enter Try.func12, Try.ntmps12
  go_wp2_with fail
  go_quiet (fail)
  have HY := hid (HYF.out nq)
  generalize ((w.alloc (.cells #[.int .i64 id, .int .i64 proc, .int .i64 obj, .int .i64 5, .int .i64 11, .int .i64 arg, .int .i64 sec, .bool done, .int .i64 res, .int .i64 inv, .int .i64 ret] 27)).alloc (.cells #[.slice none 0 0, .int .i64 0, .bool false] 30)).drewN nq = wy at *
  clear HYF
  have d0 := HY.out.d0
  have d1 := HY.out.d1
  have d2 := HY.out.d2
  have f0 := HY.out.f0
  have f1 := HY.out.f1
  have f2 := HY.out.f2
  have c1 := HY.out.c1
  have c5 := HY.out.c5
  have hlt := HY.out.lt
  go_wp2_with fail
  go_quiet (fail)
  go_wp2_with fail
  refine (HW.out _ (HV.out.grow (Grow.drewNM HY.out.grow _))).mono ?_
  rintro e w3 ⟨px, cx, rfl, b3⟩
  have HY3 := hid (HY.out.next (Grow.trans (Grow.drewNM (Grow.refl wy) _) b3))
  clear d0 d1 d2 f0 f1 f2 c1 c5 hlt HY b3
  have d0 := HY3.out.d0
  have d1 := HY3.out.d1
  have d2 := HY3.out.d2
  have f0 := HY3.out.f0
  have f1 := HY3.out.f1
  have f2 := HY3.out.f2
  have c1 := HY3.out.c1
  have c5 := HY3.out.c5
  have hlt := HY3.out.lt
  go_wp2_with fail
  refine (HW2.out _ (HV.out.grow HY3.out.grow)).mono ?_
  rintro e w4 ⟨x, rfl, ix, b4, hx⟩
  obtain ⟨px4, cx4, rfl, -⟩ := ix.at
  have HY4 := hid (HY3.out.next b4)
  have HX := hid (show Ints w4 (.slice px4 l.length cx4) l ∧ (l = [] ∨ ∀ b off n c, Value.slice px4 l.length cx4 = .slice (some ⟨b, off, none⟩) n c → b ≠ w.heap.size + 1) from ⟨ix, .inr fun b off n c h => by have := hx b off n c h; omega⟩)
  clear d0 d1 d2 f0 f1 f2 c1 c5 hlt HY3 b4 ix hx
  have d0 := HY4.out.d0
  have d1 := HY4.out.d1
  have d2 := HY4.out.d2
  have f0 := HY4.out.f0
  have f1 := HY4.out.f1
  have f2 := HY4.out.f2
  have c1 := HY4.out.c1
  have c5 := HY4.out.c5
  have hlt := HY4.out.lt
  go_wp2_with fail
  (try simp only [Exit.inBlock, Exit.then])
  refine done_ret (fn := Try.f12) (p := 4) (g := w.heap.size + 1) (e := 30) (fr := (0, 0)) (v := (.slice px4 l.length cx4)) (n := 1) (b := true) rfl rfl Try.underlying30 rfl (by kernel_rfl) rfl ?hg ?hP
  case hg => with_reducible exact done3 HY4.out.blk _ _ _
  case hP => exact DonePost.intro rfl rfl (HX.out.1.sets HX.out.2) (HY4.out.new (Grow.refl _) _ _ _)
set_option maxRecDepth 100000 in
set_option maxHeartbeats 4000000 in
theorem RDo_m0 (id proc obj arg sec : Int) (done : Bool) (res inv ret : Int) (xs : List Int) (p : Option Addr) (n cap q : Nat) (w : World) (hv : Ints w (.slice p n cap) xs) (hd : decide (q < n) = false) (hW : ∀ w, Ints w (.slice p n cap) xs → Calls Try.prog 28 #[.slice p n cap, .int .i64 arg] w fun e w' => ∃ px cx, e = .returned (.slice px q cx) ∧ Grow w w') :
    Calls Try.prog 12 #[.slice p n cap, .agg #[.int .i64 id, .int .i64 proc, .int .i64 obj, .int .i64 5, .int .i64 11, .int .i64 arg, .int .i64 sec, .bool done, .int .i64 res, .int .i64 inv, .int .i64 ret]] w (DonePost (xs, 0, true) w) := by
  have HYF := hid (fun nq => Own2.mk' (Grow.drewNM (Grow.refl ((w.alloc (.cells #[.int .i64 id, .int .i64 proc, .int .i64 obj, .int .i64 5, .int .i64 11, .int .i64 arg, .int .i64 sec, .bool done, .int .i64 res, .int .i64 inv, .int .i64 ret] 27)).alloc (.cells #[.slice none 0 0, .int .i64 0, .bool false] 30))) nq))
  have hlv := hid (show xs = [] ∨ ∀ b off n' c, Value.slice p n cap = .slice (some ⟨b, off, none⟩) n' c → b ≠ w.heap.size + 1 from hv.apart (by omega))
  have HV := hid hv
  have HW := hid hW
  clear hv hW
  go_enter Try.func12, Try.ntmps12
  go_wp2_with fail
  go_quiet (fail)
  have HY := hid (HYF.out nq)
  generalize ((w.alloc (.cells #[.int .i64 id, .int .i64 proc, .int .i64 obj, .int .i64 5, .int .i64 11, .int .i64 arg, .int .i64 sec, .bool done, .int .i64 res, .int .i64 inv, .int .i64 ret] 27)).alloc (.cells #[.slice none 0 0, .int .i64 0, .bool false] 30)).drewN nq = wy at *
  clear HYF
  have d0 := HY.out.d0
  have d1 := HY.out.d1
  have d2 := HY.out.d2
  have f0 := HY.out.f0
  have f1 := HY.out.f1
  have f2 := HY.out.f2
  have c1 := HY.out.c1
  have c5 := HY.out.c5
  have hlt := HY.out.lt
  go_wp2_with fail
  go_quiet (fail)
  go_wp2_with fail
  refine (HW.out _ (HV.out.grow (Grow.drewNM HY.out.grow _))).mono ?_
  rintro e w3 ⟨px, cx, rfl, b3⟩
  have HY3 := hid (HY.out.next (Grow.trans (Grow.drewNM (Grow.refl wy) _) b3))
  clear d0 d1 d2 f0 f1 f2 c1 c5 hlt HY b3
  have d0 := HY3.out.d0
  have d1 := HY3.out.d1
  have d2 := HY3.out.d2
  have f0 := HY3.out.f0
  have f1 := HY3.out.f1
  have f2 := HY3.out.f2
  have c1 := HY3.out.c1
  have c5 := HY3.out.c5
  have hlt := HY3.out.lt
  go_wp2_with fail
  (try simp only [Exit.inBlock, Exit.then])
  refine done_ret (fn := Try.f12) (p := 4) (g := w.heap.size + 1) (e := 30) (fr := (0, 0)) (v := (.slice p n cap)) (n := 0) (b := true) rfl rfl Try.underlying30 rfl (by kernel_rfl) rfl ?hg ?hP
  case hg => with_reducible exact done3 HY3.out.blk _ _ _
  case hP => exact DonePost.intro rfl rfl ((HV.out.grow HY3.out.grow).sets hlv.out) (HY3.out.new (Grow.refl _) _ _ _)
set_option maxRecDepth 100000 in
set_option maxHeartbeats 4000000 in
theorem RDo_z (id proc obj meth arg sec : Int) (done : Bool) (res inv ret : Int) (xs : List Int) (p : Option Addr) (n cap q : Nat) (w : World) (hv : Ints w (.slice p n cap) xs) (hd : decide (q < n) = true) (hW : ∀ w, Ints w (.slice p n cap) xs → Calls Try.prog 28 #[.slice p n cap, .int .i64 arg] w fun e w' => ∃ px cx, e = .returned (.slice px q cx) ∧ Grow w w') (m1 : (meth == 12) = false) (m2 : (meth == 10) = false) (m3 : (meth == 11) = false) :
    Calls Try.prog 12 #[.slice p n cap, .agg #[.int .i64 id, .int .i64 proc, .int .i64 obj, .int .i64 5, .int .i64 meth, .int .i64 arg, .int .i64 sec, .bool done, .int .i64 res, .int .i64 inv, .int .i64 ret]] w (DonePost ([], 0, false) w) := by
  have HYF := hid (fun nq => Own2.mk' (Grow.drewNM (Grow.refl ((w.alloc (.cells #[.int .i64 id, .int .i64 proc, .int .i64 obj, .int .i64 5, .int .i64 meth, .int .i64 arg, .int .i64 sec, .bool done, .int .i64 res, .int .i64 inv, .int .i64 ret] 27)).alloc (.cells #[.slice none 0 0, .int .i64 0, .bool false] 30))) nq))
  have hlv := hid (show xs = [] ∨ ∀ b off n' c, Value.slice p n cap = .slice (some ⟨b, off, none⟩) n' c → b ≠ w.heap.size + 1 from hv.apart (by omega))
  have HV := hid hv
  have HW := hid hW
  clear hv hW
  go_enter Try.func12, Try.ntmps12
  go_wp2_with fail
  go_quiet (fail)
  have HY := hid (HYF.out nq)
  generalize ((w.alloc (.cells #[.int .i64 id, .int .i64 proc, .int .i64 obj, .int .i64 5, .int .i64 meth, .int .i64 arg, .int .i64 sec, .bool done, .int .i64 res, .int .i64 inv, .int .i64 ret] 27)).alloc (.cells #[.slice none 0 0, .int .i64 0, .bool false] 30)).drewN nq = wy at *
  clear HYF
  have d0 := HY.out.d0
  have d1 := HY.out.d1
  have d2 := HY.out.d2
  have f0 := HY.out.f0
  have f1 := HY.out.f1
  have f2 := HY.out.f2
  have c1 := HY.out.c1
  have c5 := HY.out.c5
  have hlt := HY.out.lt
  go_wp2_with fail
  go_quiet (fail)
  go_wp2_with fail
  refine (HW.out _ (HV.out.grow (Grow.drewNM HY.out.grow _))).mono ?_
  rintro e w3 ⟨px, cx, rfl, b3⟩
  have HY3 := hid (HY.out.next (Grow.trans (Grow.drewNM (Grow.refl wy) _) b3))
  clear d0 d1 d2 f0 f1 f2 c1 c5 hlt HY b3
  have d0 := HY3.out.d0
  have d1 := HY3.out.d1
  have d2 := HY3.out.d2
  have f0 := HY3.out.f0
  have f1 := HY3.out.f1
  have f2 := HY3.out.f2
  have c1 := HY3.out.c1
  have c5 := HY3.out.c5
  have hlt := HY3.out.lt
  go_wp2_with fail
  (try simp only [Exit.inBlock, Exit.then])
  refine done_ret (fn := Try.f12) (p := 4) (g := w.heap.size + 1) (e := 30) (fr := (0, 0)) (v := (.slice none 0 0)) (n := 0) (b := false) rfl rfl Try.underlying30 rfl (by kernel_rfl) rfl ?hg ?hP
  case hg => with_reducible exact done3 HY3.out.blk _ _ _
  case hP => exact DonePost.intro rfl rfl (Ints.nil _) (HY3.out.new (Grow.refl _) _ _ _)
set_option maxRecDepth 100000 in
set_option maxHeartbeats 4000000 in
theorem RDo_z0 (id proc obj meth arg sec : Int) (done : Bool) (res inv ret : Int) (xs : List Int) (p : Option Addr) (n cap q : Nat) (w : World) (hv : Ints w (.slice p n cap) xs) (hd : decide (q < n) = false) (hW : ∀ w, Ints w (.slice p n cap) xs → Calls Try.prog 28 #[.slice p n cap, .int .i64 arg] w fun e w' => ∃ px cx, e = .returned (.slice px q cx) ∧ Grow w w') (m1 : (meth == 12) = false) (m2 : (meth == 10) = false) (m3 : (meth == 11) = false) :
    Calls Try.prog 12 #[.slice p n cap, .agg #[.int .i64 id, .int .i64 proc, .int .i64 obj, .int .i64 5, .int .i64 meth, .int .i64 arg, .int .i64 sec, .bool done, .int .i64 res, .int .i64 inv, .int .i64 ret]] w (DonePost ([], 0, false) w) := by
  have HYF := hid (fun nq => Own2.mk' (Grow.drewNM (Grow.refl ((w.alloc (.cells #[.int .i64 id, .int .i64 proc, .int .i64 obj, .int .i64 5, .int .i64 meth, .int .i64 arg, .int .i64 sec, .bool done, .int .i64 res, .int .i64 inv, .int .i64 ret] 27)).alloc (.cells #[.slice none 0 0, .int .i64 0, .bool false] 30))) nq))
  have hlv := hid (show xs = [] ∨ ∀ b off n' c, Value.slice p n cap = .slice (some ⟨b, off, none⟩) n' c → b ≠ w.heap.size + 1 from hv.apart (by omega))
  have HV := hid hv
  have HW := hid hW
  clear hv hW
  go_enter Try.func12, Try.ntmps12
  go_wp2_with fail
  go_quiet (fail)
  have HY := hid (HYF.out nq)
  generalize ((w.alloc (.cells #[.int .i64 id, .int .i64 proc, .int .i64 obj, .int .i64 5, .int .i64 meth, .int .i64 arg, .int .i64 sec, .bool done, .int .i64 res, .int .i64 inv, .int .i64 ret] 27)).alloc (.cells #[.slice none 0 0, .int .i64 0, .bool false] 30)).drewN nq = wy at *
  clear HYF
  have d0 := HY.out.d0
  have d1 := HY.out.d1
  have d2 := HY.out.d2
  have f0 := HY.out.f0
  have f1 := HY.out.f1
  have f2 := HY.out.f2
  have c1 := HY.out.c1
  have c5 := HY.out.c5
  have hlt := HY.out.lt
  go_wp2_with fail
  go_quiet (fail)
  go_wp2_with fail
  refine (HW.out _ (HV.out.grow (Grow.drewNM HY.out.grow _))).mono ?_
  rintro e w3 ⟨px, cx, rfl, b3⟩
  have HY3 := hid (HY.out.next (Grow.trans (Grow.drewNM (Grow.refl wy) _) b3))
  clear d0 d1 d2 f0 f1 f2 c1 c5 hlt HY b3
  have d0 := HY3.out.d0
  have d1 := HY3.out.d1
  have d2 := HY3.out.d2
  have f0 := HY3.out.f0
  have f1 := HY3.out.f1
  have f2 := HY3.out.f2
  have c1 := HY3.out.c1
  have c5 := HY3.out.c5
  have hlt := HY3.out.lt
  go_wp2_with fail
  (try simp only [Exit.inBlock, Exit.then])
  refine done_ret (fn := Try.f12) (p := 4) (g := w.heap.size + 1) (e := 30) (fr := (0, 0)) (v := (.slice none 0 0)) (n := 0) (b := false) rfl rfl Try.underlying30 rfl (by kernel_rfl) rfl ?hg ?hP
  case hg => with_reducible exact done3 HY3.out.blk _ _ _
  case hP => exact DonePost.intro rfl rfl (Ints.nil _) (HY3.out.new (Grow.refl _) _ _ _)
end Go.Proofs.Ytookcollmijjkaa
