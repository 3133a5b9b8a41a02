/- Every head as it is written, and which head every block has, are what the document says. -/
import Derived.Test.YtcfkcdfjianeiaaJAwake
import Derived.Test.YtcfkcdfjianeiaaJRRead
import Derived.Test.YtcfkcdfjianeiaaJLift
import Derived.Test.YtcfkcdfjianeiaaJEq
namespace Go.Proofs.Ytcfkcdfjianeiaa
open Go.RowKit
set_option linter.unusedVariables false
set_option linter.unusedSimpArgs false
set_option maxRecDepth 100000 in
set_option maxHeartbeats 2000000 in
theorem Heads_walk (h : HeadR) (s : ByteArray) (w : World) (hf : h.Fit) (hs : s.size ≤ 140737488351232) :
    Calls Try.prog 4 #[headV h, .string s] w fun e w' => e = .returned (.bool true) ∧ Below w.heap.size w w' := by
  have hR := fun w => ReadHead_c s w (by omega)
  have hRR := fun w => RReadHead_c s w hs
  have hW := fun w => WriteHead_c h w hf
  have hRW := fun w => RWriteHead_c h w hf
  have hO := fun w => of_c h w
  have hO2 := fun w => of_c (readL s.data.toList) w
  unfold ReadPost at hR hRR
  generalize readL s.data.toList = r at *
  generalize okL s.data.toList = ok at *
  generalize (⟨(writeL h).toArray⟩ : ByteArray) = Z at *
  obtain ⟨seq, used, room, pages⟩ := h
  obtain ⟨rs, ru, rr, rp⟩ := r
  unfold headV at *
  dsimp only at *
  have HR := hid hR
  have HRR := hid hRR
  have HW := hid hW
  have HRW := hid hRW
  have HO := hid hO
  have HO2 := hid hO2
  have tn := hid (fun w => head_same (rs : Int) ru rr rp w)
  have tg := hid (fun x y xs ys w => head_guard x y xs ys w)
  clear hR hRR hW hRW hO hO2
  go_enter Try.func4, Try.ntmps4
  go_wp2_with fail
  refine (HR.out _).mono ?_
  rintro e w1 ⟨rfl, g1⟩
  go_wp2_with fail
  refine (HRR.out _).mono ?_
  rintro e w2 ⟨rfl, g2⟩
  go_wp2_with fail
  have hb1 : (w2.alloc (.cells #[.int .u64 (rs : Int), .int .i64 ru, .int .i64 rr, .int .i64 rp] 35)).heap[w.heap.size]? = some (.cells #[.int .u64 (seq : Int), .int .i64 used, .int .i64 room, .int .i64 pages] 35 (0, 0)) := heap_alloc_keep (Grow.heap (Grow.trans g1 (Grow.trans (Grow.alloc _ _) g2)) (heap_new w _)) _
  have hb2 : (w2.alloc (.cells #[.int .u64 (rs : Int), .int .i64 ru, .int .i64 rr, .int .i64 rp] 35)).heap[w1.heap.size]? = some (.cells #[.int .u64 (rs : Int), .int .i64 ru, .int .i64 rr, .int .i64 rp] 36 (0, 0)) := heap_alloc_keep (Grow.heap g2 (heap_new w1 _)) _
  have hb3 : (w2.alloc (.cells #[.int .u64 (rs : Int), .int .i64 ru, .int .i64 rr, .int .i64 rp] 35)).heap[w2.heap.size]? = some (.cells #[.int .u64 (rs : Int), .int .i64 ru, .int .i64 rr, .int .i64 rp] 35 (0, 0)) := heap_new w2 _
  have gall : Grow w (w2.alloc (.cells #[.int .u64 (rs : Int), .int .i64 ru, .int .i64 rr, .int .i64 rp] 35)) := Grow.trans (Grow.alloc _ _) (Grow.trans g1 (Grow.trans (Grow.alloc _ _) (Grow.trans g2 (Grow.alloc _ _))))
  generalize w2.alloc (.cells #[.int .u64 (rs : Int), .int .i64 ru, .int .i64 rr, .int .i64 rp] 35) = W at *
  have p0 : W.cell? ⟨w.heap.size, 0, none⟩ = some (.int .u64 (seq : Int)) := by rw [heap_cell hb1]; rfl
  have p1 : W.cell? ⟨w.heap.size, 1, none⟩ = some (.int .i64 used) := by rw [heap_cell hb1]; rfl
  have p2 : W.cell? ⟨w.heap.size, 2, none⟩ = some (.int .i64 room) := by rw [heap_cell hb1]; rfl
  have p3 : W.cell? ⟨w.heap.size, 3, none⟩ = some (.int .i64 pages) := by rw [heap_cell hb1]; rfl
  have q0 : W.cell? ⟨w1.heap.size, 0, none⟩ = some (.int .u64 (rs : Int)) := by rw [heap_cell hb2]; rfl
  have q1 : W.cell? ⟨w1.heap.size, 1, none⟩ = some (.int .i64 ru) := by rw [heap_cell hb2]; rfl
  have q2 : W.cell? ⟨w1.heap.size, 2, none⟩ = some (.int .i64 rr) := by rw [heap_cell hb2]; rfl
  have q3 : W.cell? ⟨w1.heap.size, 3, none⟩ = some (.int .i64 rp) := by rw [heap_cell hb2]; rfl
  have r0 : W.cell? ⟨w2.heap.size, 0, none⟩ = some (.int .u64 (rs : Int)) := by rw [heap_cell hb3]; rfl
  have r1 : W.cell? ⟨w2.heap.size, 1, none⟩ = some (.int .i64 ru) := by rw [heap_cell hb3]; rfl
  have r2 : W.cell? ⟨w2.heap.size, 2, none⟩ = some (.int .i64 rr) := by rw [heap_cell hb3]; rfl
  have r3 : W.cell? ⟨w2.heap.size, 3, none⟩ = some (.int .i64 rp) := by rw [heap_cell hb3]; rfl
  have l1 := heap_lt hb1
  have l2 := heap_lt hb2
  have l3 := heap_lt hb3
  clear hb1 hb2 hb3
  refine wp_rely [.eq (.agg #[.int .u64 (seq : Int), .int .i64 used, .int .i64 room, .int .i64 pages]), .eq (.agg #[.int .u64 (seq : Int), .int .i64 used, .int .i64 room, .int .i64 pages]), .eq (.string Z), .eq (.agg #[.int .u64 (seq : Int), .int .i64 used, .int .i64 room, .int .i64 pages]), .eq (.string Z), .eq (.bool true), .eq (.bool true), .eq (.agg #[.int .u64 (rs : Int), .int .i64 ru, .int .i64 rr, .int .i64 rp]), .eq (.agg #[.int .u64 (rs : Int), .int .i64 ru, .int .i64 rr, .int .i64 rp]), .eq (.agg #[.int .u64 (rs : Int), .int .i64 ru, .int .i64 rr, .int .i64 rp]), .eq (.bool true), .eq (.bool true), .eq (.bool true), .eq (.bool ok), .eq (.bool ok), .eq (.bool true), .eq (.bool true), .eq (.bool true), .eq (.bool true), .eq (.bool true), .eq (.bool true)] (by kernel_rfl) (by kernel_rfl) (by kernel_rfl) ?_ ?_
  · simp only [relyGoals]
    refine ⟨?_, ?_, ?_, ?_, ?_, ?_, ?_, ?_, ?_, ?_, ?_, ?_, ?_, ?_, ?_, ?_, ?_, ?_, ?_, ?_, ?_, trivial⟩
    all_goals intro t w' hsz hg hdd hfr
    all_goals simp only [depsDid, Did, perAt, List.getElem?_cons_zero, List.getElem?_cons_succ, List.getD_cons_zero, List.getD_cons_succ, Per.eq, Per.row, Per.of, and_true, Array.getD_eq_getD_getElem?] at hdd
    · rw [if_pos (by rfl)]
      try simp only [perAt, List.getD_cons_zero, List.getD_cons_succ, Per.eq, Per.row, Per.of]
      have hs2 := hfr 2 (by kernel_rfl)
      simp only [Array.getD_eq_getD_getElem?] at hs2
      have kc := hg.cells
      simp [execOp, Act.eval, hdd, hs2, relyUpon, go_sem, Grow.refl, kc, p0, p1, p2, p3, q0, q1, q2, q3, r0, r1, r2, r3, l1, l2, l3]
    · rw [if_pos (by rfl)]
      try simp only [perAt, List.getD_cons_zero, List.getD_cons_succ, Per.eq, Per.row, Per.of]
      simp [execOp, Act.eval, hdd, relyUpon, go_sem]
      refine (HO.out w').mono fun e w'' h => ?_
      obtain ⟨h1, h2⟩ := h
      have h3 : Grow w' w'' := by first | exact h2 | (rw [← h2]; exact Grow.refl _)
      first | exact ⟨h3, h1⟩ | exact ⟨_, h1, h3, rfl⟩ | exact ⟨h1, h3⟩
    · rw [if_pos (by rfl)]
      try simp only [perAt, List.getD_cons_zero, List.getD_cons_succ, Per.eq, Per.row, Per.of]
      simp [execOp, Act.eval, hdd, relyUpon, go_sem]
      refine (HW.out w').mono fun e w'' h => ?_
      obtain ⟨h1, h2⟩ := h
      have h3 : Grow w' w'' := by first | exact h2 | (rw [← h2]; exact Grow.refl _)
      first | exact ⟨h3, h1⟩ | exact ⟨_, h1, h3, rfl⟩ | exact ⟨h1, h3⟩
    · rw [if_pos (by rfl)]
      try simp only [perAt, List.getD_cons_zero, List.getD_cons_succ, Per.eq, Per.row, Per.of]
      have hs2 := hfr 2 (by kernel_rfl)
      simp only [Array.getD_eq_getD_getElem?] at hs2
      have kc := hg.cells
      simp [execOp, Act.eval, hdd, hs2, relyUpon, go_sem, Grow.refl, kc, p0, p1, p2, p3, q0, q1, q2, q3, r0, r1, r2, r3, l1, l2, l3]
    · rw [if_pos (by rfl)]
      try simp only [perAt, List.getD_cons_zero, List.getD_cons_succ, Per.eq, Per.row, Per.of]
      simp [execOp, Act.eval, hdd, relyUpon, go_sem]
      refine (HRW.out w').mono fun e w'' h => ?_
      obtain ⟨h1, h2⟩ := h
      have h3 : Grow w' w'' := by first | exact h2 | (rw [← h2]; exact Grow.refl _)
      first | exact ⟨h3, h1⟩ | exact ⟨_, h1, h3, rfl⟩ | exact ⟨h1, h3⟩
    · rw [if_pos (by rfl)]
      try simp only [perAt, List.getD_cons_zero, List.getD_cons_succ, Per.eq, Per.row, Per.of]
      simp [execOp, Act.eval, hdd, relyUpon, go_sem, Grow.refl]
    · rw [if_pos (by rfl)]
      try simp only [perAt, List.getD_cons_zero, List.getD_cons_succ, Per.eq, Per.row, Per.of]
      simp [execOp, Act.eval, hdd, relyUpon, go_sem, Grow.refl]
    · rw [if_pos (by simp only [Region.wanted]; rw [yielded_of (d := 25) (b := true) rfl (by simp only [hdd])]; rfl)]
      try simp only [perAt, List.getD_cons_zero, List.getD_cons_succ, Per.eq, Per.row, Per.of]
      have hs5 := hfr 5 (by kernel_rfl)
      simp only [Array.getD_eq_getD_getElem?] at hs5
      have kc := hg.cells
      simp [execOp, Act.eval, hdd, hs5, relyUpon, go_sem, Grow.refl, kc, p0, p1, p2, p3, q0, q1, q2, q3, r0, r1, r2, r3, l1, l2, l3]
    · rw [if_pos (by simp only [Region.wanted]; rw [yielded_of (d := 25) (b := true) rfl (by simp only [hdd])]; rfl)]
      try simp only [perAt, List.getD_cons_zero, List.getD_cons_succ, Per.eq, Per.row, Per.of]
      have hs7 := hfr 7 (by kernel_rfl)
      simp only [Array.getD_eq_getD_getElem?] at hs7
      have kc := hg.cells
      simp [execOp, Act.eval, hdd, hs7, relyUpon, go_sem, Grow.refl, kc, p0, p1, p2, p3, q0, q1, q2, q3, r0, r1, r2, r3, l1, l2, l3]
    · rw [if_pos (by simp only [Region.wanted]; rw [yielded_of (d := 25) (b := true) rfl (by simp only [hdd])]; rfl)]
      try simp only [perAt, List.getD_cons_zero, List.getD_cons_succ, Per.eq, Per.row, Per.of]
      simp [execOp, Act.eval, hdd, relyUpon, go_sem]
      refine (HO2.out w').mono fun e w'' h => ?_
      obtain ⟨h1, h2⟩ := h
      have h3 : Grow w' w'' := by first | exact h2 | (rw [← h2]; exact Grow.refl _)
      first | exact ⟨h3, h1⟩ | exact ⟨_, h1, h3, rfl⟩ | exact ⟨h1, h3⟩
    · rw [if_pos (by simp only [Region.wanted]; rw [yielded_of (d := 25) (b := true) rfl (by simp only [hdd])]; rfl)]
      try simp only [perAt, List.getD_cons_zero, List.getD_cons_succ, Per.eq, Per.row, Per.of]
      simp [execOp, Act.eval, hdd, relyUpon, go_sem, Grow.refl, tn.out, tg.out]
    · rw [if_pos (by rfl)]
      try simp only [perAt, List.getD_cons_zero, List.getD_cons_succ, Per.eq, Per.row, Per.of]
      simp [execOp, Act.eval, hdd, relyUpon, go_sem, Grow.refl]
    · rw [if_pos (by rfl)]
      try simp only [perAt, List.getD_cons_zero, List.getD_cons_succ, Per.eq, Per.row, Per.of]
      simp [execOp, Act.eval, hdd, relyUpon, go_sem, Grow.refl]
    · rw [if_pos (by simp only [Region.wanted]; rw [yielded_of (d := 31) (b := true) rfl (by simp only [hdd])]; rfl)]
      try simp only [perAt, List.getD_cons_zero, List.getD_cons_succ, Per.eq, Per.row, Per.of]
      have hs6 := hfr 6 (by kernel_rfl)
      simp only [Array.getD_eq_getD_getElem?] at hs6
      simp [execOp, Act.eval, hdd, hs6, relyUpon, go_sem, Grow.refl]
    · rw [if_pos (by simp only [Region.wanted]; rw [yielded_of (d := 31) (b := true) rfl (by simp only [hdd])]; rfl)]
      try simp only [perAt, List.getD_cons_zero, List.getD_cons_succ, Per.eq, Per.row, Per.of]
      have hs8 := hfr 8 (by kernel_rfl)
      simp only [Array.getD_eq_getD_getElem?] at hs8
      simp [execOp, Act.eval, hdd, hs8, relyUpon, go_sem, Grow.refl]
    · rw [if_pos (by simp only [Region.wanted]; rw [yielded_of (d := 31) (b := true) rfl (by simp only [hdd])]; rfl)]
      try simp only [perAt, List.getD_cons_zero, List.getD_cons_succ, Per.eq, Per.row, Per.of]
      simp [execOp, Act.eval, hdd, relyUpon, go_sem, Grow.refl]
    · rw [if_pos (by rfl)]
      try simp only [perAt, List.getD_cons_zero, List.getD_cons_succ, Per.eq, Per.row, Per.of]
      simp [execOp, Act.eval, hdd, relyUpon, go_sem, Grow.refl]
    · rw [if_pos (by rfl)]
      try simp only [perAt, List.getD_cons_zero, List.getD_cons_succ, Per.eq, Per.row, Per.of]
      simp [execOp, Act.eval, hdd, relyUpon, go_sem, Grow.refl]
    · rw [if_pos (by simp only [Region.wanted]; rw [yielded_of (d := 36) (b := true) rfl (by simp only [hdd])]; rfl)]
      try simp only [perAt, List.getD_cons_zero, List.getD_cons_succ, Per.eq, Per.row, Per.of]
      simp [execOp, Act.eval, hdd, relyUpon, go_sem]
      refine (awake_c w').mono fun e w'' h => ?_
      obtain ⟨h1, h2⟩ := h
      have h3 : Grow w' w'' := by first | exact h2 | (rw [← h2]; exact Grow.refl _)
      first | exact ⟨h3, h1⟩ | exact ⟨_, h1, h3, rfl⟩ | exact ⟨h1, h3⟩
    · rw [if_pos (by rfl)]
      try simp only [perAt, List.getD_cons_zero, List.getD_cons_succ, Per.eq, Per.row, Per.of]
      simp [execOp, Act.eval, hdd, relyUpon, go_sem, Grow.refl]
    · rw [if_pos (by rfl)]
      try simp only [perAt, List.getD_cons_zero, List.getD_cons_succ, Per.eq, Per.row, Per.of]
      simp [execOp, Act.eval, hdd, relyUpon, go_sem, Grow.refl]
  intro wz hgz
  simp only [relyEnd, List.headD_cons, List.tail_cons, Per.eq, Per.row, Per.of]
  rintro _ rfl _ rfl _ rfl _ rfl _ rfl _ rfl _ rfl _ rfl _ rfl _ rfl _ rfl _ rfl _ rfl _ rfl _ rfl _ rfl _ rfl _ rfl _ rfl _ rfl _ rfl
  go_simp
  go_wp2_with fail
  go_ret
  exact ⟨rfl, Grow.trans gall hgz⟩
namespace LawJournalHeads
open Go.ChangeShapes Go.WideShapes Go.ChangeAt Go.RowKit
open Go.ChangeMaps (open_string shut_string)
theorem own : ownKnob Try.prog.godebug = none := by kernel_rfl
theorem laidOut : laidOutB Try.prog = true := by kernel_rfl
set_option maxRecDepth 100000 in
theorem lifted (os : Os) (started : os.Started) (H : Type) (enc : TypeId × Value → H) :
    ReturnsInHanded {} Try.checked os 4 .any (Rows.journalHeadsSpec.pre6 enc Try.prog Try.f4 Rows.journalHeadsRow.domain false) (Rows.journalHeadsSpec.post enc Try.prog Try.f4 false true false false) := by
  refine returnsInHanded_of_change_sized (C := Try.checked) own started (by kernel_rfl) Try.func4
    (ChangeSpec.witness6 (enc := enc) (C := Try.checked) false ⟨#[], #[.agg #[.int .u64 0, .int .i64 0, .int .i64 0, .int .i64 0], .string ByteArray.empty], []⟩ 8 (by kernel_rfl) (by kernel_rfl) (by kernel_rfl) (by kernel_rfl)) ?_
  intro W base args ds gs before hval0 hW hcnd hsz _
  have hval : ∀ (j : Nat) t v, Try.f4.params[j]? = some t → args[j]? = some v → Value.okWide Try.prog W .any base t v := hval0
  have hW' := hW
  obtain ⟨p, q, hA0, hV, rfl, hfz, hnd⟩ := hW
  have hA : DataW.TrodAll enc Try.prog W 0 (fun _ => true) true Try.f4.params.toList args.toList ds p := hA0
  rw [Try.params4] at hA hval hsz
  obtain ⟨v0, vs0, d0, ds0, p0, q0, hargs, rfl, rfl, h0, r0⟩ := trodAll_cons hA
  obtain ⟨v1, vs1, d1, ds1, p1, q1, rfl, rfl, rfl, h1, r1⟩ := trodAll_cons r0
  obtain ⟨rfl, rfl, rfl⟩ := trodAll_nil r1
  obtain rfl : args = #[v0, v1] := by cases args; simp_all
  obtain ⟨rfl, rfl⟩ := trodVars_none hV
  have k0 := h0
  have lt0 : ∀ x ∈ p0, x.block < W.heap.size := by obtain ⟨m, hm⟩ := k0; exact DataW.trod_lt m _ _ _ hm
  obtain ⟨a0, rfl, w0⟩ := open_head (hval 0 35 v0 rfl rfl) h0
  obtain ⟨a1, rfl, rfl, rfl, w1⟩ := open_string Try.underlying9 (hval 1 9 v1 rfl rfl) h1
  have z1 : a1.size ≤ 140737488351232 := by
    have h := sized_string hsz (j := 1) (t := 9) (bytes := a1.data.toList) rfl rfl
    simpa [reachBytes] using h
  clear hA0 hval0
  refine (Heads_walk a0 a1 W w0 z1).mono fun e W' ⟨he, bel⟩ => ?_
  subst he
  exact ⟨_, rfl, _, _, _, [], _, [], hW', trodAll_mk1 (shut_bool Try.underlying4 _), (trodAll_cons_mk (Below.trod laidOut (by kernel_rfl) (of_decide_eq_true (by kernel_rfl)) k0 bel lt0) (trodAll_cons_mk (shut_string Try.underlying9 w1) trodAll_mk0)), rfl, bel.frame _, fun h => by cases h⟩
theorem over : Rows.journalHeadsRow.holds Try.pinned (OpenSpec.ofChange Rows.journalHeadsSpec) :=
  OpenClaim.holds_of_wide 4 Try.f4 rfl rfl rfl rfl rfl rfl rfl ⟨rfl, rfl, rfl, rfl, rfl⟩ rfl rfl rfl rfl rfl (by kernel_rfl) Try.func4 (by kernel_rfl)
    (of_decide_eq_true (by kernel_rfl)) (by unfold Func.isWrapper; first | (rw [if_pos (by decide +kernel)]; kernel_rfl) | (rw [if_neg (by decide +kernel)]; exact ⟨rfl, rfl⟩))
    (fun os started H enc _ => lifted os started H enc)
end LawJournalHeads
/-- The given statement. -/
theorem journalHeads_proved : Rows.JournalHeadsSaid := LawJournalHeads.over
#print axioms journalHeads_proved
end Go.Proofs.Ytcfkcdfjianeiaa
