/- What journal.ReadHead and the reference's ReadHead compute. -/
import Derived.Test.YtcfkcdfjianeiaaJHead
import Derived.Laws.ResultCell
import Derived.Laws.Rows
import Derived.RegionTactic
import Derived.StillTailTactics
namespace Go.Proofs.Ytcfkcdfjianeiaa
open Go.RowKit
set_option linter.unusedVariables false
set_option linter.unusedSimpArgs false
/-- A function's results, the first a variable that lies whole in a block. -/
theorem results_row2 {P : Program} {fn : Func} {p u : Tmp} {ty : TypeId} (h : fn.results = #[.cell p ty, .tmp u]) (tmps : Array Value) (w : World) (g : Nat) (t : TypeId) (cs : Array Value) (fr : Nat × Nat) (d : TypeDesc)
    (hp : tmps.getD p undef = .pointer (some ⟨g, 0, none⟩)) (hg : w.heap[g]? = some (.cells cs t fr))
    (hu : P.underlying ty = some d) (hd : (match d with | .struct _ | .array _ _ => true | _ => false) = true) (hi : (P.info? ty).map (·.size) = some cs.size) :
    (results fn tmps).run P w = .ok (.tuple #[.agg cs, tmps.getD u undef]) w := by
  rw [results_cell_tmp h, hp]
  simp [asAddr, Result.andThen, run_loadVar_row w g t ty cs fr d hg hu hd hi]
/-- The value of a head that is read, and whether there is one. -/
def ReadPost (L : List UInt8) (w : World) (e : Ending) (w' : World) : Prop := e = .returned (.tuple #[headV (readL L), .bool (okL L)]) ∧ Grow w w'
theorem part_bytes (s : ByteArray) (i j : Nat) : (s.extract i j).data.toList = (s.data.toList.drop i).take (j - i) := by
  simp [ByteArray.data_extract, List.take_drop]
theorem Grow.set {a b : World} (h : Grow a b) (g o : Nat) (hg : a.heap.size ≤ g) (u : Value) : Grow a (b.setCell ⟨g, o, none⟩ u) := Below.setCell h (p := ⟨g, o, none⟩) hg u
theorem Grow.drewNR {a b : World} (h : Grow a b) (n : Nat) : Grow a (b.drewN n) := ⟨h.os, h.tape, h.output, h.size, h.block⟩
theorem Grow.drewR {a b : World} (h : Grow a b) : Grow a b.drew := Below.drew h
theorem leV4 (L : List UInt8) : leV (L.take 4) < 4294967296 := leV_take_lt L 4
theorem at_c (s : ByteArray) (k : Nat) (g : Nat) (w : World) (hs : s.size ≤ 140737488355328) (hk : k + 4 ≤ s.size) (hc : w.cell? ⟨g, 0, none⟩ = some (.string s)) :
    Calls Try.prog 26 #[.int .i64 (k : Int), .pointer (some ⟨g, 0, none⟩)] w fun e w' => e = .returned (.int .i64 (atL s.data.toList k)) ∧ w = w' := by
  have hp : (s.extract k (k + 4)).data.toList = (s.data.toList.drop k).take 4 := by rw [part_bytes]; congr 1; omega
  have hU := fun w => Unfixed_c (s.extract k (k + 4)) w (by rw [ByteArray.size_extract]; unfold maxLen; omega)
  rw [hp, List.take_take] at hU
  have hlt := leV4 (s.data.toList.drop k)
  unfold atL
  simp only [show min 8 4 = 4 from rfl] at hU
  generalize leV ((s.data.toList.drop k).take 4) = V at *
  replace hU := hid hU
  clear hp
  go_enter Try.func26, Try.ntmps26
  go_wp2_with fail
  refine (hU.out _).mono ?_
  rintro e w1 ⟨rfl, rfl⟩
  go_wp2_with fail
  go_ret
  exact ⟨rfl, rfl⟩
set_option maxRecDepth 100000 in
set_option maxHeartbeats 2000000 in
theorem ReadHead_c (s : ByteArray) (w : World) (hs : s.size ≤ 140737488355328) : Calls Try.prog 13 #[.string s] w (ReadPost s.data.toList w) := by
  have hl : s.data.toList.length = s.size := by simp
  have hmf : ∀ (fn : Fn) (first cap : Array Value) (w : World), (Instr.makeFunc fn first cap).run Try.prog w = .ok (.func fn first cap) w := fun _ _ _ _ => rfl
  by_cases h40 : s.size < 40
  · have e0 : okL s.data.toList = false := by unfold okL; rw [hl, decide_eq_false (by omega), Bool.false_and]
    have e1 : readL s.data.toList = zeroH := by unfold readL; rw [e0]; rfl
    unfold ReadPost
    rw [e0, e1]
    clear hl e0 e1
    have h40' : (s.size : Int) < 40 := by omega
    go_enter Try.func13, Try.ntmps13
    go_wp2_with fail
    refine wp_rely [.eq (.string s), .eq (.int .i64 (s.size : Int)), .eq (.bool true), .eq (.bool true), .eq undef, .eq undef, .eq undef, .eq undef, .eq undef, .eq undef, .eq (.bool true)] (by kernel_rfl) (by kernel_rfl) (by kernel_rfl) ?_ ?_
    · simp only [relyGoals]
      refine ⟨?_, ?_, ?_, ?_, ?_, ?_, ?_, ?_, ?_, ?_, ?_, trivial⟩
      all_goals intro t w' hsz hg hdd hfr
      all_goals simp only [depsDid, Did, perAt, List.getElem?_cons_zero, List.getElem?_cons_succ, List.getD_cons_zero, List.getD_cons_succ, Per.eq, Per.row, Per.of, and_true, Array.getD_eq_getD_getElem?] at hdd
      · rw [if_pos (by rfl)]
        try simp only [perAt, List.getD_cons_zero, List.getD_cons_succ, Per.eq, Per.row, Per.of]
        have hs1 := hfr 1 (by kernel_rfl)
        simp only [Array.getD_eq_getD_getElem?] at hs1
        have kc := hg.cells
        simp [execOp, Act.eval, hdd, hs1, relyUpon, go_sem, Grow.refl, kc]
      · rw [if_pos (by rfl)]
        try simp only [perAt, List.getD_cons_zero, List.getD_cons_succ, Per.eq, Per.row, Per.of]
        simp [execOp, Act.eval, hdd, relyUpon, go_sem, Grow.refl]
      · rw [if_pos (by rfl)]
        try simp only [perAt, List.getD_cons_zero, List.getD_cons_succ, Per.eq, Per.row, Per.of]
        simp [execOp, Act.eval, hdd, relyUpon, go_sem, Grow.refl, h40']
      · rw [if_pos (by rfl)]
        try simp only [perAt, List.getD_cons_zero, List.getD_cons_succ, Per.eq, Per.row, Per.of]
        simp [execOp, Act.eval, hdd, relyUpon, go_sem, Grow.refl]
      · rw [if_neg (by simp only [Region.wanted]; rw [yielded_of (d := 8) (b := true) rfl (by simp only [hdd])]; decide)]
        all_goals first | rfl | simp [perAt, Per.eq, Per.of, Per.row]
      · rw [if_neg (by simp only [Region.wanted]; rw [yielded_of (d := 8) (b := true) rfl (by simp only [hdd])]; decide)]
        all_goals first | rfl | simp [perAt, Per.eq, Per.of, Per.row]
      · rw [if_neg (by simp only [Region.wanted]; rw [yielded_of (d := 8) (b := true) rfl (by simp only [hdd])]; decide)]
        all_goals first | rfl | simp [perAt, Per.eq, Per.of, Per.row]
      · rw [if_neg (by simp only [Region.wanted]; rw [yielded_of (d := 8) (b := true) rfl (by simp only [hdd])]; decide)]
        all_goals first | rfl | simp [perAt, Per.eq, Per.of, Per.row]
      · rw [if_neg (by simp only [Region.wanted]; rw [yielded_of (d := 8) (b := true) rfl (by simp only [hdd])]; decide)]
        all_goals first | rfl | simp [perAt, Per.eq, Per.of, Per.row]
      · rw [if_neg (by simp only [Region.wanted]; rw [yielded_of (d := 8) (b := true) rfl (by simp only [hdd])]; decide)]
        all_goals first | rfl | simp [perAt, Per.eq, Per.of, Per.row]
      · rw [if_pos (by rfl)]
        try simp only [perAt, List.getD_cons_zero, List.getD_cons_succ, Per.eq, Per.row, Per.of]
        simp [execOp, Act.eval, hdd, relyUpon, go_sem, Grow.refl]
    intro wz hgz
    simp only [relyEnd, List.headD_cons, List.tail_cons, Per.eq, Per.row, Per.of]
    rintro _ rfl _ rfl _ rfl _ rfl _ rfl _ rfl _ rfl _ rfl _ rfl _ rfl _ rfl
    go_simp
    have hz : wz.heap[w.heap.size + 1]? = some (.cells #[.int .u64 0, .int .i64 0, .int .i64 0, .int .i64 0] 36 (0, 0)) := hgz.heap (by simpa using heap_new (w.alloc (.cells #[.string s] 9)) (.cells #[.int .u64 0, .int .i64 0, .int .i64 0, .int .i64 0] 36))
    have c0 : wz.cell? ⟨w.heap.size + 1, 0, none⟩ = some (.int .u64 0) := by rw [heap_cell hz]; rfl
    have f0 : wz.frozen? ⟨w.heap.size + 1, 0, none⟩ = false := heap_frozen hz 0 (by omega)
    have c1 : wz.cell? ⟨w.heap.size + 1, 1, none⟩ = some (.int .i64 0) := by rw [heap_cell hz]; rfl
    have f1 : wz.frozen? ⟨w.heap.size + 1, 1, none⟩ = false := heap_frozen hz 1 (by omega)
    have c2 : wz.cell? ⟨w.heap.size + 1, 2, none⟩ = some (.int .i64 0) := by rw [heap_cell hz]; rfl
    have f2 : wz.frozen? ⟨w.heap.size + 1, 2, none⟩ = false := heap_frozen hz 2 (by omega)
    have c3 : wz.cell? ⟨w.heap.size + 1, 3, none⟩ = some (.int .i64 0) := by rw [heap_cell hz]; rfl
    have f3 : wz.frozen? ⟨w.heap.size + 1, 3, none⟩ = false := heap_frozen hz 3 (by omega)
    have HZ := hid hz
    clear hz
    go_wp2_with fail
    (try simp only [Exit.inBlock, Exit.then])
    refine bodyPost_ret (v := .tuple #[.agg #[.int .u64 0, .int .i64 0, .int .i64 0, .int .i64 0], .bool false]) ?_ rfl ⟨?_, ?_⟩
    · refine results_row2 (fn := Try.f13) (p := 2) (u := 3) rfl _ _ (w.heap.size + 1) 36 _ (0, 0) _ rfl ?_ Try.underlying36 rfl ?_
      · exact heap_set (heap_set (heap_set (heap_set HZ.out 0 _) 1 _) 2 _) 3 _
      · kernel_rfl
    · rfl
    · exact Grow.set (Grow.set (Grow.set (Grow.set (Grow.trans (Grow.trans (Grow.alloc _ _) (Grow.alloc _ _)) hgz) _ _ (by omega) _) _ _ (by omega) _) _ _ (by omega) _) _ _ (by omega) _
  · have hP : (s.extract 0 20).data.toList = s.data.toList.take 20 := by rw [part_bytes]; rfl
    have hQ : (s.extract 20 40).data.toList = (s.data.toList.drop 20).take 20 := by rw [part_bytes]
    have hN := fun w => Not_c (s.extract 0 20) w (by rw [ByteArray.size_extract]; unfold maxLen; omega)
    rw [hP] at hN
    have h40' : ¬ (s.size : Int) < 40 := by omega
    have hPP := hid (show (20 : Int) ≤ (s.size : Int) by omega)
    have hQQ := hid (show (40 : Int) ≤ (s.size : Int) by omega)
    by_cases hok : notL (s.data.toList.take 20) = (s.data.toList.drop 20).take 20
    · have e0 : okL s.data.toList = true := by unfold okL; rw [hl, decide_eq_true (by omega), decide_eq_true hok]; rfl
      have e1 : readL s.data.toList = headOf s.data.toList := by unfold readL; rw [e0]; rfl
      unfold ReadPost
      rw [e0, e1]
      have hb := hid (show (⟨(notL (s.data.toList.take 20)).toArray⟩ : ByteArray).toList = (s.extract 20 40).toList by rw [ByteArray.toList_eq, ByteArray.toList_eq, hQ, hok])
      have hU := fun w => Unfixed_c (s.extract 0 8) w (by rw [ByteArray.size_extract]; unfold maxLen; omega)
      have hp8 : (s.extract 0 8).data.toList = s.data.toList.take 8 := by rw [part_bytes]; rfl
      rw [hp8, List.take_take] at hU
      simp only [show min 8 8 = 8 from rfl] at hU
      have A8 := fun g w hc => at_c s 8 g w hs (by omega) hc
      have A12 := fun g w hc => at_c s 12 g w hs (by omega) hc
      have A16 := fun g w hc => at_c s 16 g w hs (by omega) hc
      unfold headOf headV
      dsimp only
      generalize leV (s.data.toList.take 8) = V0 at *
      generalize atL s.data.toList 8 = V1 at *
      generalize atL s.data.toList 12 = V2 at *
      generalize atL s.data.toList 16 = V3 at *
      generalize (⟨(notL (s.data.toList.take 20)).toArray⟩ : ByteArray) = N at *
      replace hN := hid hN
      replace hU := hid hU
      replace A8 := hid A8
      replace A12 := hid A12
      replace A16 := hid A16
      have hs40 : 40 ≤ s.size := by omega
      clear hl e0 e1 hok hP hQ hp8 h40
      go_enter Try.func13, Try.ntmps13
      go_wp2_with fail
      refine wp_rely [.eq (.string s), .eq (.int .i64 (s.size : Int)), .eq (.bool false), .eq (.bool false), .eq (.string s), .eq (.string (s.extract 0 20)), .eq (.string N), .eq (.string s), .eq (.string (s.extract 20 40)), .eq (.bool false), .eq (.bool false)] (by kernel_rfl) (by kernel_rfl) (by kernel_rfl) ?_ ?_
      · simp only [relyGoals]
        refine ⟨?_, ?_, ?_, ?_, ?_, ?_, ?_, ?_, ?_, ?_, ?_, trivial⟩
        all_goals intro t w' hsz hg hdd hfr
        all_goals simp only [depsDid, Did, perAt, List.getElem?_cons_zero, List.getElem?_cons_succ, List.getD_cons_zero, List.getD_cons_succ, Per.eq, Per.row, Per.of, and_true, Array.getD_eq_getD_getElem?] at hdd
        · rw [if_pos (by rfl)]
          try simp only [perAt, List.getD_cons_zero, List.getD_cons_succ, Per.eq, Per.row, Per.of]
          have hs1 := hfr 1 (by kernel_rfl)
          simp only [Array.getD_eq_getD_getElem?] at hs1
          have kc := hg.cells
          simp [execOp, Act.eval, hdd, hs1, relyUpon, go_sem, Grow.refl, kc]
        · rw [if_pos (by rfl)]
          try simp only [perAt, List.getD_cons_zero, List.getD_cons_succ, Per.eq, Per.row, Per.of]
          simp [execOp, Act.eval, hdd, relyUpon, go_sem, Grow.refl]
        · rw [if_pos (by rfl)]
          try simp only [perAt, List.getD_cons_zero, List.getD_cons_succ, Per.eq, Per.row, Per.of]
          simp [execOp, Act.eval, hdd, relyUpon, go_sem, Grow.refl, h40']
        · rw [if_pos (by rfl)]
          try simp only [perAt, List.getD_cons_zero, List.getD_cons_succ, Per.eq, Per.row, Per.of]
          simp [execOp, Act.eval, hdd, relyUpon, go_sem, Grow.refl]
        · rw [if_pos (by simp only [Region.wanted]; rw [yielded_of (d := 8) (b := false) rfl (by simp only [hdd])]; rfl)]
          try simp only [perAt, List.getD_cons_zero, List.getD_cons_succ, Per.eq, Per.row, Per.of]
          have hs1 := hfr 1 (by kernel_rfl)
          simp only [Array.getD_eq_getD_getElem?] at hs1
          have kc := hg.cells
          simp [execOp, Act.eval, hdd, hs1, relyUpon, go_sem, Grow.refl, kc]
        · rw [if_pos (by simp only [Region.wanted]; rw [yielded_of (d := 8) (b := false) rfl (by simp only [hdd])]; rfl)]
          try simp only [perAt, List.getD_cons_zero, List.getD_cons_succ, Per.eq, Per.row, Per.of]
          simp [execOp, Act.eval, hdd, relyUpon, go_sem, Grow.refl, hPP.out]
        · rw [if_pos (by simp only [Region.wanted]; rw [yielded_of (d := 8) (b := false) rfl (by simp only [hdd])]; rfl)]
          try simp only [perAt, List.getD_cons_zero, List.getD_cons_succ, Per.eq, Per.row, Per.of]
          simp [execOp, Act.eval, hdd, relyUpon, go_sem]
          refine (hN.out w').mono fun e w'' h => ?_
          obtain ⟨h1, h2⟩ := h
          have h3 : Grow w' w'' := by first | exact h2 | (rw [← h2]; exact Grow.refl _)
          first | exact ⟨h3, h1⟩ | exact ⟨_, h1, h3, rfl⟩ | exact ⟨h1, h3⟩
        · rw [if_pos (by simp only [Region.wanted]; rw [yielded_of (d := 8) (b := false) rfl (by simp only [hdd])]; rfl)]
          try simp only [perAt, List.getD_cons_zero, List.getD_cons_succ, Per.eq, Per.row, Per.of]
          have hs1 := hfr 1 (by kernel_rfl)
          simp only [Array.getD_eq_getD_getElem?] at hs1
          have kc := hg.cells
          simp [execOp, Act.eval, hdd, hs1, relyUpon, go_sem, Grow.refl, kc]
        · rw [if_pos (by simp only [Region.wanted]; rw [yielded_of (d := 8) (b := false) rfl (by simp only [hdd])]; rfl)]
          try simp only [perAt, List.getD_cons_zero, List.getD_cons_succ, Per.eq, Per.row, Per.of]
          simp [execOp, Act.eval, hdd, relyUpon, go_sem, Grow.refl, hQQ.out]
        · rw [if_pos (by simp only [Region.wanted]; rw [yielded_of (d := 8) (b := false) rfl (by simp only [hdd])]; rfl)]
          try simp only [perAt, List.getD_cons_zero, List.getD_cons_succ, Per.eq, Per.row, Per.of]
          simp [execOp, Act.eval, hdd, relyUpon, go_sem, Grow.refl, hb.out]
        · rw [if_pos (by rfl)]
          try simp only [perAt, List.getD_cons_zero, List.getD_cons_succ, Per.eq, Per.row, Per.of]
          simp [execOp, Act.eval, hdd, relyUpon, go_sem, Grow.refl]
      intro wz hgz
      simp only [relyEnd, List.headD_cons, List.tail_cons, Per.eq, Per.row, Per.of]
      rintro _ rfl _ rfl _ rfl _ rfl _ rfl _ rfl _ rfl _ rfl _ rfl _ rfl _ rfl
      go_simp
      have hz : wz.heap[w.heap.size + 1]? = some (.cells #[.int .u64 0, .int .i64 0, .int .i64 0, .int .i64 0] 36 (0, 0)) := hgz.heap (by simpa using heap_new (w.alloc (.cells #[.string s] 9)) (.cells #[.int .u64 0, .int .i64 0, .int .i64 0, .int .i64 0] 36))
      have c0 : wz.cell? ⟨w.heap.size + 1, 0, none⟩ = some (.int .u64 0) := by rw [heap_cell hz]; rfl
      have f0 : wz.frozen? ⟨w.heap.size + 1, 0, none⟩ = false := heap_frozen hz 0 (by omega)
      have c1 : wz.cell? ⟨w.heap.size + 1, 1, none⟩ = some (.int .i64 0) := by rw [heap_cell hz]; rfl
      have f1 : wz.frozen? ⟨w.heap.size + 1, 1, none⟩ = false := heap_frozen hz 1 (by omega)
      have c2 : wz.cell? ⟨w.heap.size + 1, 2, none⟩ = some (.int .i64 0) := by rw [heap_cell hz]; rfl
      have f2 : wz.frozen? ⟨w.heap.size + 1, 2, none⟩ = false := heap_frozen hz 2 (by omega)
      have c3 : wz.cell? ⟨w.heap.size + 1, 3, none⟩ = some (.int .i64 0) := by rw [heap_cell hz]; rfl
      have f3 : wz.frozen? ⟨w.heap.size + 1, 3, none⟩ = false := heap_frozen hz 3 (by omega)
      have HZ := hid hz
      clear hz
      have ct : wz.cell? ⟨w.heap.size, 0, none⟩ = some (.string s) := by
        have ho : wz.heap[w.heap.size]? = some (.cells #[.string s] 9 (0, 0)) := hgz.heap (heap_alloc_keep (heap_new w _) _)
        rw [heap_cell ho]; rfl
      go_wp2_with fail
      refine (hU.out _).mono ?_
      rintro e w2 ⟨rfl, rfl⟩
      go_wp2_with fail
      refine (A8.out _ _ ct).mono ?_
      rintro e w2 ⟨rfl, rfl⟩
      go_wp2_with fail
      refine (A12.out _ _ ct).mono ?_
      rintro e w2 ⟨rfl, rfl⟩
      go_wp2_with fail
      refine (A16.out _ _ ct).mono ?_
      rintro e w2 ⟨rfl, rfl⟩
      go_wp2_with fail
      (try simp only [Exit.inBlock, Exit.then])
      refine bodyPost_ret (v := .tuple #[.agg #[.int .u64 (V0 : Int), .int .i64 V1, .int .i64 V2, .int .i64 V3], .bool true]) ?_ rfl ⟨?_, ?_⟩
      · refine results_row2 (fn := Try.f13) (p := 2) (u := 3) rfl _ _ (w.heap.size + 1) 36 _ (0, 0) _ rfl ?_ Try.underlying36 rfl ?_
        · exact heap_set (heap_set (heap_set (heap_set HZ.out 0 _) 1 _) 2 _) 3 _
        · kernel_rfl
      · rfl
      · exact Grow.set (Grow.set (Grow.set (Grow.set (Grow.trans (Grow.trans (Grow.alloc _ _) (Grow.alloc _ _)) hgz) _ _ (by omega) _) _ _ (by omega) _) _ _ (by omega) _) _ _ (by omega) _
    · have e0 : okL s.data.toList = false := by unfold okL; rw [decide_eq_false hok, Bool.and_false]
      have e1 : readL s.data.toList = zeroH := by unfold readL; rw [e0]; rfl
      unfold ReadPost
      rw [e0, e1]
      have hb := hid (show ¬ (⟨(notL (s.data.toList.take 20)).toArray⟩ : ByteArray).toList = (s.extract 20 40).toList by rw [ByteArray.toList_eq, ByteArray.toList_eq, hQ]; simpa using hok)
      generalize (⟨(notL (s.data.toList.take 20)).toArray⟩ : ByteArray) = N at *
      replace hN := hid hN
      clear hl e0 e1 hok hP hQ h40
      go_enter Try.func13, Try.ntmps13
      go_wp2_with fail
      refine wp_rely [.eq (.string s), .eq (.int .i64 (s.size : Int)), .eq (.bool false), .eq (.bool false), .eq (.string s), .eq (.string (s.extract 0 20)), .eq (.string N), .eq (.string s), .eq (.string (s.extract 20 40)), .eq (.bool true), .eq (.bool true)] (by kernel_rfl) (by kernel_rfl) (by kernel_rfl) ?_ ?_
      · simp only [relyGoals]
        refine ⟨?_, ?_, ?_, ?_, ?_, ?_, ?_, ?_, ?_, ?_, ?_, trivial⟩
        all_goals intro t w' hsz hg hdd hfr
        all_goals simp only [depsDid, Did, perAt, List.getElem?_cons_zero, List.getElem?_cons_succ, List.getD_cons_zero, List.getD_cons_succ, Per.eq, Per.row, Per.of, and_true, Array.getD_eq_getD_getElem?] at hdd
        · rw [if_pos (by rfl)]
          try simp only [perAt, List.getD_cons_zero, List.getD_cons_succ, Per.eq, Per.row, Per.of]
          have hs1 := hfr 1 (by kernel_rfl)
          simp only [Array.getD_eq_getD_getElem?] at hs1
          have kc := hg.cells
          simp [execOp, Act.eval, hdd, hs1, relyUpon, go_sem, Grow.refl, kc]
        · rw [if_pos (by rfl)]
          try simp only [perAt, List.getD_cons_zero, List.getD_cons_succ, Per.eq, Per.row, Per.of]
          simp [execOp, Act.eval, hdd, relyUpon, go_sem, Grow.refl]
        · rw [if_pos (by rfl)]
          try simp only [perAt, List.getD_cons_zero, List.getD_cons_succ, Per.eq, Per.row, Per.of]
          simp [execOp, Act.eval, hdd, relyUpon, go_sem, Grow.refl, h40']
        · rw [if_pos (by rfl)]
          try simp only [perAt, List.getD_cons_zero, List.getD_cons_succ, Per.eq, Per.row, Per.of]
          simp [execOp, Act.eval, hdd, relyUpon, go_sem, Grow.refl]
        · rw [if_pos (by simp only [Region.wanted]; rw [yielded_of (d := 8) (b := false) rfl (by simp only [hdd])]; rfl)]
          try simp only [perAt, List.getD_cons_zero, List.getD_cons_succ, Per.eq, Per.row, Per.of]
          have hs1 := hfr 1 (by kernel_rfl)
          simp only [Array.getD_eq_getD_getElem?] at hs1
          have kc := hg.cells
          simp [execOp, Act.eval, hdd, hs1, relyUpon, go_sem, Grow.refl, kc]
        · rw [if_pos (by simp only [Region.wanted]; rw [yielded_of (d := 8) (b := false) rfl (by simp only [hdd])]; rfl)]
          try simp only [perAt, List.getD_cons_zero, List.getD_cons_succ, Per.eq, Per.row, Per.of]
          simp [execOp, Act.eval, hdd, relyUpon, go_sem, Grow.refl, hPP.out]
        · rw [if_pos (by simp only [Region.wanted]; rw [yielded_of (d := 8) (b := false) rfl (by simp only [hdd])]; rfl)]
          try simp only [perAt, List.getD_cons_zero, List.getD_cons_succ, Per.eq, Per.row, Per.of]
          simp [execOp, Act.eval, hdd, relyUpon, go_sem]
          refine (hN.out w').mono fun e w'' h => ?_
          obtain ⟨h1, h2⟩ := h
          have h3 : Grow w' w'' := by first | exact h2 | (rw [← h2]; exact Grow.refl _)
          first | exact ⟨h3, h1⟩ | exact ⟨_, h1, h3, rfl⟩ | exact ⟨h1, h3⟩
        · rw [if_pos (by simp only [Region.wanted]; rw [yielded_of (d := 8) (b := false) rfl (by simp only [hdd])]; rfl)]
          try simp only [perAt, List.getD_cons_zero, List.getD_cons_succ, Per.eq, Per.row, Per.of]
          have hs1 := hfr 1 (by kernel_rfl)
          simp only [Array.getD_eq_getD_getElem?] at hs1
          have kc := hg.cells
          simp [execOp, Act.eval, hdd, hs1, relyUpon, go_sem, Grow.refl, kc]
        · rw [if_pos (by simp only [Region.wanted]; rw [yielded_of (d := 8) (b := false) rfl (by simp only [hdd])]; rfl)]
          try simp only [perAt, List.getD_cons_zero, List.getD_cons_succ, Per.eq, Per.row, Per.of]
          simp [execOp, Act.eval, hdd, relyUpon, go_sem, Grow.refl, hQQ.out]
        · rw [if_pos (by simp only [Region.wanted]; rw [yielded_of (d := 8) (b := false) rfl (by simp only [hdd])]; rfl)]
          try simp only [perAt, List.getD_cons_zero, List.getD_cons_succ, Per.eq, Per.row, Per.of]
          simp [execOp, Act.eval, hdd, relyUpon, go_sem, Grow.refl, hb.out]
        · rw [if_pos (by rfl)]
          try simp only [perAt, List.getD_cons_zero, List.getD_cons_succ, Per.eq, Per.row, Per.of]
          simp [execOp, Act.eval, hdd, relyUpon, go_sem, Grow.refl]
      intro wz hgz
      simp only [relyEnd, List.headD_cons, List.tail_cons, Per.eq, Per.row, Per.of]
      rintro _ rfl _ rfl _ rfl _ rfl _ rfl _ rfl _ rfl _ rfl _ rfl _ rfl _ rfl
      go_simp
      have hz : wz.heap[w.heap.size + 1]? = some (.cells #[.int .u64 0, .int .i64 0, .int .i64 0, .int .i64 0] 36 (0, 0)) := hgz.heap (by simpa using heap_new (w.alloc (.cells #[.string s] 9)) (.cells #[.int .u64 0, .int .i64 0, .int .i64 0, .int .i64 0] 36))
      have c0 : wz.cell? ⟨w.heap.size + 1, 0, none⟩ = some (.int .u64 0) := by rw [heap_cell hz]; rfl
      have f0 : wz.frozen? ⟨w.heap.size + 1, 0, none⟩ = false := heap_frozen hz 0 (by omega)
      have c1 : wz.cell? ⟨w.heap.size + 1, 1, none⟩ = some (.int .i64 0) := by rw [heap_cell hz]; rfl
      have f1 : wz.frozen? ⟨w.heap.size + 1, 1, none⟩ = false := heap_frozen hz 1 (by omega)
      have c2 : wz.cell? ⟨w.heap.size + 1, 2, none⟩ = some (.int .i64 0) := by rw [heap_cell hz]; rfl
      have f2 : wz.frozen? ⟨w.heap.size + 1, 2, none⟩ = false := heap_frozen hz 2 (by omega)
      have c3 : wz.cell? ⟨w.heap.size + 1, 3, none⟩ = some (.int .i64 0) := by rw [heap_cell hz]; rfl
      have f3 : wz.frozen? ⟨w.heap.size + 1, 3, none⟩ = false := heap_frozen hz 3 (by omega)
      have HZ := hid hz
      clear hz
      go_wp2_with fail
      (try simp only [Exit.inBlock, Exit.then])
      refine bodyPost_ret (v := .tuple #[.agg #[.int .u64 0, .int .i64 0, .int .i64 0, .int .i64 0], .bool false]) ?_ rfl ⟨?_, ?_⟩
      · refine results_row2 (fn := Try.f13) (p := 2) (u := 3) rfl _ _ (w.heap.size + 1) 36 _ (0, 0) _ rfl ?_ Try.underlying36 rfl ?_
        · exact heap_set (heap_set (heap_set (heap_set HZ.out 0 _) 1 _) 2 _) 3 _
        · kernel_rfl
      · rfl
      · exact Grow.set (Grow.set (Grow.set (Grow.set (Grow.trans (Grow.trans (Grow.alloc _ _) (Grow.alloc _ _)) hgz) _ _ (by omega) _) _ _ (by omega) _) _ _ (by omega) _) _ _ (by omega) _
end Go.Proofs.Ytcfkcdfjianeiaa
