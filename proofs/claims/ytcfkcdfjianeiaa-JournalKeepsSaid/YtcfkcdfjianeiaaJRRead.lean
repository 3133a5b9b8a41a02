/- What the reference's ReadHead computes, and the law's own turning of a head. -/
import Derived.Test.YtcfkcdfjianeiaaJRead
import Derived.Deep.QuietTactic
import Derived.BigQuiet
import Derived.IntWalk
namespace Go.Proofs.Ytcfkcdfjianeiaa
open Go.RowKit
set_option linter.unusedVariables false
set_option linter.unusedSimpArgs false
theorem calls_flip {P : Program} {f : FuncId} {args : Array Value} {w : World} {v : Value} (h : Calls P f args w fun e w' => e = .returned v ∧ w = w') : Calls P f args w fun e w' => e = .returned v ∧ w' = w := h.mono fun _ _ hh => ⟨hh.1, hh.2.symm⟩
/-- The bytes held against themselves, one by one. -/
theorem notL_iff (L : List UInt8) (h : 40 ≤ L.length) : notL (L.take 20) = (L.drop 20).take 20 ↔ ∀ i, i < 20 → (L.getD i 0).toNat + (L.getD (20 + i) 0).toNat = 255 := by
  constructor
  · intro e i hi
    have := congrArg (fun l => l.getD i 0) e
    simp only [notL, List.getD, List.getElem?_map, List.getElem?_take, if_pos hi, List.getElem?_drop] at this ⊢
    rw [List.getElem?_eq_getElem (by omega : i < L.length), List.getElem?_eq_getElem (by omega : 20 + i < L.length)] at this ⊢
    simp only [Option.map_some, Option.getD_some] at this ⊢
    rw [← this]
    have := (L[i]'(by omega)).toNat_lt
    simp
    omega
  · intro H
    apply List.ext_getElem
    · simp [notL]; omega
    · intro i h1 h2
      have hi : i < 20 := by simp [notL] at h1; omega
      have := H i hi
      simp only [List.getD, List.getElem?_eq_getElem (by omega : i < L.length), List.getElem?_eq_getElem (by omega : 20 + i < L.length), Option.getD_some] at this
      simp only [notL, List.getElem_map, List.getElem_take, List.getElem_drop]
      apply UInt8.toNat_inj.1
      have := (L[i]'(by omega)).toNat_lt
      simp
      omega
theorem getD_byte (s : ByteArray) (k : Nat) (h : k < s.size) : s.data.toList.getD k 0 = s[k] := by
  have h' : k < s.data.toList.length := by simpa using h
  simp only [List.getD, List.getElem?_eq_getElem h', Option.getD_some]
  rfl
set_option maxRecDepth 100000 in
set_option maxHeartbeats 2000000 in
theorem RReadHead_c (s : ByteArray) (w : World) (hs : s.size ≤ 140737488351232) : Calls Try.prog 14 #[.string s] w (ReadPost s.data.toList w) := by
  have hl : s.data.toList.length = s.size := by simp
  by_cases h40 : s.size < 40
  · have e0 : okL s.data.toList = false := by unfold okL; rw [hl, decide_eq_false (by omega), Bool.false_and]
    have e1 : readL s.data.toList = zeroH := by unfold readL; rw [e0]; rfl
    unfold ReadPost
    rw [e0, e1]
    clear hl e0 e1
    have h40' : (s.size : Int) < 40 := by omega
    go_enter Try.func14, Try.ntmps14
    go_wp2_with fail
    (try simp only [Exit.inBlock, Exit.then])
    refine bodyPost_ret (v := .tuple #[.agg #[.int .u64 0, .int .i64 0, .int .i64 0, .int .i64 0], .bool false]) ?_ rfl ⟨?_, ?_⟩
    · refine results_row2 (fn := Try.f14) (p := 2) (u := 3) rfl _ _ w.heap.size 35 _ (0, 0) _ rfl (heap_new w _) Try.underlying35 rfl ?_
      kernel_rfl
    · rfl
    · exact Grow.alloc _ _
  · have hiff := notL_iff s.data.toList (by omega)
    have hB : ∀ i, i < 20 → ∀ (h1 : i < s.size) (h2 : 20 + i < s.size), ((s.data.toList.getD i 0).toNat + (s.data.toList.getD (20 + i) 0).toNat = 255) = ((s[i]).toNat + (s[20 + i]).toNat = 255) := fun i hi h1 h2 => by rw [getD_byte s i h1, getD_byte s (20 + i) h2]
    have h40' : ¬ (s.size : Int) < 40 := by omega
    have hs40 : 40 ≤ s.size := by omega
    have HN := hid (show (∃ i, i < 20 ∧ ¬ (s.data.toList.getD i 0).toNat + (s.data.toList.getD (20 + i) 0).toNat = 255) → readL s.data.toList = zeroH ∧ okL s.data.toList = false from by
      rintro ⟨i, hi, hne⟩
      have hok : ¬ notL (s.data.toList.take 20) = (s.data.toList.drop 20).take 20 := fun e => hne (hiff.1 e i hi)
      have e0 : okL s.data.toList = false := by unfold okL; rw [decide_eq_false hok, Bool.and_false]
      exact ⟨by unfold readL; rw [e0]; rfl, e0⟩)
    have HY := hid (show (∀ i, i < 20 → (s.data.toList.getD i 0).toNat + (s.data.toList.getD (20 + i) 0).toNat = 255) → readL s.data.toList = headOf s.data.toList ∧ okL s.data.toList = true from by
      intro H
      have e0 : okL s.data.toList = true := by unfold okL; rw [hl, decide_eq_true (by omega), decide_eq_true (hiff.2 H)]; rfl
      exact ⟨by unfold readL; rw [e0]; rfl, e0⟩)
    have HB := hid hB
    clear hB hiff hl h40
    unfold ReadPost
    have U := fun i j w => RUnfixed_c (s.extract i j) w (by rw [ByteArray.size_extract]; unfold maxLen; omega)
    have q1 := U 0 8
    have q2 := U 8 12
    have q3 := U 12 16
    have q4 := U 16 20
    clear U
    have p1 : (s.extract 0 8).data.toList = s.data.toList.take 8 := by rw [part_bytes]; rfl
    have p2 : (s.extract 8 12).data.toList = (s.data.toList.drop 8).take 4 := by rw [part_bytes]
    have p3 : (s.extract 12 16).data.toList = (s.data.toList.drop 12).take 4 := by rw [part_bytes]
    have p4 : (s.extract 16 20).data.toList = (s.data.toList.drop 16).take 4 := by rw [part_bytes]
    rw [p1, List.take_take] at q1
    rw [p2, List.take_take] at q2
    rw [p3, List.take_take] at q3
    rw [p4, List.take_take] at q4
    simp only [show min 8 4 = 4 from rfl, show min 8 8 = 8 from rfl] at q1 q2 q3 q4
    have l2 := leV4 (s.data.toList.drop 8)
    have l3 := leV4 (s.data.toList.drop 12)
    have l4 := leV4 (s.data.toList.drop 16)
    have HO := hid (show headV (headOf s.data.toList) = .agg #[.int .u64 (leV (s.data.toList.take 8) : Int), .int .i64 (leV ((s.data.toList.drop 8).take 4) : Int), .int .i64 (leV ((s.data.toList.drop 12).take 4) : Int), .int .i64 (leV ((s.data.toList.drop 16).take 4) : Int)] from rfl)
    generalize leV (s.data.toList.take 8) = V0 at *
    generalize leV ((s.data.toList.drop 8).take 4) = V1 at *
    generalize leV ((s.data.toList.drop 12).take 4) = V2 at *
    generalize leV ((s.data.toList.drop 16).take 4) = V3 at *
    have Q1 := hid (fun w => calls_flip (q1 w))
    have Q2 := hid (fun w => calls_flip (q2 w))
    have Q3 := hid (fun w => calls_flip (q3 w))
    have Q4 := hid (fun w => calls_flip (q4 w))
    clear q1 q2 q3 q4 p1 p2 p3 p4
    go_enter Try.func14, Try.ntmps14
    go_wp2_with fail
    go_loopw [4] (fun i wr => ∃ k : Nat, k ≤ 20 ∧ i = .int .i64 (k : Int) ∧ Hid (∀ i, i < k → (s.data.toList.getD i 0).toNat + (s.data.toList.getD (20 + i) 0).toNat = 255) ∧ Grow (w.alloc (.cells #[.int .u64 0, .int .i64 0, .int .i64 0, .int .i64 0] 35)) wr) (fun i _ => 20 - (intOf i).toNat)
    case atStart => exact ⟨0, by omega, rfl, hid (fun i hi => absurd hi (by omega)), Grow.refl _⟩
    case round =>
      obtain ⟨k, hk, rfl, HK, hgr⟩ := hrel
      have hz : wr.heap[w.heap.size]? = some (.cells #[.int .u64 0, .int .i64 0, .int .i64 0, .int .i64 0] 35 (0, 0)) := hgr.heap (heap_new w _)
      have c0 : wr.cell? ⟨w.heap.size, 0, none⟩ = some (.int .u64 0) := by rw [heap_cell hz]; rfl
      have f0 : wr.frozen? ⟨w.heap.size, 0, none⟩ = false := heap_frozen hz 0 (by omega)
      have c1 : wr.cell? ⟨w.heap.size, 1, none⟩ = some (.int .i64 0) := by rw [heap_cell hz]; rfl
      have f1 : wr.frozen? ⟨w.heap.size, 1, none⟩ = false := heap_frozen hz 1 (by omega)
      have c2 : wr.cell? ⟨w.heap.size, 2, none⟩ = some (.int .i64 0) := by rw [heap_cell hz]; rfl
      have f2 : wr.frozen? ⟨w.heap.size, 2, none⟩ = false := heap_frozen hz 2 (by omega)
      have c3 : wr.cell? ⟨w.heap.size, 3, none⟩ = some (.int .i64 0) := by rw [heap_cell hz]; rfl
      have f3 : wr.frozen? ⟨w.heap.size, 3, none⟩ = false := heap_frozen hz 3 (by omega)
      have HZ := hid hz
      clear hz
      by_cases hlt : k < 20
      · have b1 := (s[k]).toNat_lt
        have b2 := (s[20 + k]).toNat_lt
        have i1 : IntKind.i64.wrap (20 + (k : Int)) = 20 + (k : Int) := IntWalk.i64_in _ (by omega)
        have i2 : (0 : Int) ≤ 20 + (k : Int) := by omega
        have i3 : (20 + (k : Int)).toNat = 20 + k := by omega
        have i4 : 20 + (k : Int) < (s.size : Int) := by omega
        have i5 : (0 : Int) ≤ (k : Int) := by omega
        have i6 : (k : Int) < (s.size : Int) := by omega
        have i7 : 20 + k < s.size := by omega
        by_cases hm : (s[k]).toNat + (s[20 + k]).toNat = 255
        · have HK2 := hid (show ∀ i, i < k + 1 → (s.data.toList.getD i 0).toNat + (s.data.toList.getD (20 + i) 0).toNat = 255 from fun i hi => by
            rcases Nat.lt_or_ge i k with h | h
            · exact HK.out i h
            · obtain rfl : i = k := by omega
              rw [HB.out i hlt (by omega) (by omega)]; exact hm)
          have hw : IntKind.u8.wrap (((s[k]).toNat : Int) + ((s[20 + k]).toNat : Int)) = 255 := by rw [IntKind.wrap_u8']; omega
          clear hm c0 c1 c2 c3 f0 f1 f2 f3
          go_wp2_with fail
          go_quiet (fail)
          clear i1 hw
          go_wp2_with fail
          go_roundw
          case rel => exact ⟨k + 1, by omega, by go_num, HK2, Grow.drewNR hgr _⟩
          case measure => simp [intOf]; omega
        · have hP := HN.out ⟨k, hlt, by rw [HB.out k hlt (by omega) (by omega)]; exact hm⟩
          have HP := hid hP
          clear hP
          obtain ⟨v, hv, hv2⟩ : ∃ v : Int, IntKind.u8.wrap (((s[k]).toNat : Int) + ((s[20 + k]).toNat : Int)) = v ∧ (v != 255) = true := ⟨_, rfl, by rw [IntKind.wrap_u8', bne_iff_ne]; omega⟩
          clear hm
          go_wp2_with fail
          go_quiet (fail)
          clear i1 hv hv2
          go_wp2_with fail
          (try simp only [Exit.inBlock, Exit.then])
          refine bodyPost_ret (v := .tuple #[.agg #[.int .u64 0, .int .i64 0, .int .i64 0, .int .i64 0], .bool false]) ?_ rfl ⟨?_, ?_⟩
          · refine results_row2 (fn := Try.f14) (p := 2) (u := 3) rfl _ _ w.heap.size 35 _ (0, 0) _ rfl ?_ Try.underlying35 rfl ?_
            · exact heap_set (heap_set (heap_set (heap_set (show (wr.drewN _).heap[w.heap.size]? = _ from HZ.out) 0 _) 1 _) 2 _) 3 _
            · kernel_rfl
          · rw [HP.out.1, HP.out.2]; rfl
          · exact Grow.set (Grow.set (Grow.set (Grow.set (Grow.trans (Grow.alloc _ _) (Grow.drewNR hgr _)) _ _ (by omega) _) _ _ (by omega) _) _ _ (by omega) _) _ _ (by omega) _
      · obtain rfl : k = 20 := by omega
        have hP := HY.out HK.out
        have HP := hid hP
        clear hP
        have j1 : (8 : Int) ≤ (s.size : Int) := by omega
        have j2 : (12 : Int) ≤ (s.size : Int) := by omega
        have j3 : (16 : Int) ≤ (s.size : Int) := by omega
        have j4 : (20 : Int) ≤ (s.size : Int) := by omega
        have w2 : IntKind.i64.wrap (V1 : Int) = (V1 : Int) := IntWalk.i64_in _ (by omega)
        have w3 : IntKind.i64.wrap (V2 : Int) = (V2 : Int) := IntWalk.i64_in _ (by omega)
        have w4 : IntKind.i64.wrap (V3 : Int) = (V3 : Int) := IntWalk.i64_in _ (by omega)
        clear HN HY hlt HK
        go_wp2_with fail
        go_still_tail 16, (by kernel_rfl)
        still_call (Q1.out _)
        repeat still_step
        still_call (Q2.out _)
        repeat still_step
        still_call (Q3.out _)
        repeat still_step
        still_call (Q4.out _)
        repeat still_step
        refine wpStill_nil ?_
        go_wp2_with fail
        (try simp only [Exit.inBlock, Exit.then])
        refine bodyPost_ret (v := .tuple #[.agg #[.int .u64 (V0 : Int), .int .i64 (V1 : Int), .int .i64 (V2 : Int), .int .i64 (V3 : Int)], .bool true]) ?_ rfl ⟨?_, ?_⟩
        · refine results_row2 (fn := Try.f14) (p := 2) (u := 3) rfl _ _ w.heap.size 35 _ (0, 0) _ rfl ?_ Try.underlying35 rfl ?_
          · exact heap_set (heap_set (heap_set (heap_set HZ.out 0 _) 1 _) 2 _) 3 _
          · kernel_rfl
        · rw [HP.out.1, HP.out.2, HO.out]
        · repeat' (first | exact (Grow.trans (Grow.alloc _ _) hgr) | refine Grow.drewR ?_ | refine Grow.drewNR ?_ _ | refine Grow.set ?_ _ _ (Nat.le_refl _) _)
/-- A function's one result, a variable that lies whole in a block. -/
theorem results_row1 {P : Program} {fn : Func} {p : Tmp} {ty : TypeId} (h : fn.results = #[.cell p ty]) (tmps : Array Value) (w : World) (g : Nat) (t : TypeId) (cs : Array Value) (fr : Nat × Nat) (d : TypeDesc)
    (hp : tmps.getD p undef = .pointer (some ⟨g, 0, none⟩)) (hg : w.heap[g]? = some (.cells cs t fr))
    (hu : P.underlying ty = some d) (hd : (match d with | .struct _ | .array _ _ => true | _ => false) = true) (hi : (P.info? ty).map (·.size) = some cs.size) :
    (results fn tmps).run P w = .ok (.agg cs) w := by
  have hp' : tmps[p]?.getD undef = .pointer (some ⟨g, 0, none⟩) := by simpa using hp
  simp [results, h, hp', asAddr, Result.andThen, run_loadVar_row w g t ty cs fr d hg hu hd hi]
set_option maxRecDepth 100000 in
theorem of_c (h : HeadR) (w : World) : Calls Try.prog 16 #[headV h] w fun e w' => e = .returned (headV h) ∧ Grow w w' := by
  obtain ⟨seq, used, room, pages⟩ := h
  unfold headV
  dsimp only
  go_enter Try.func16, Try.ntmps16
  go_wp2_with fail
  (try simp only [Exit.inBlock, Exit.then])
  refine bodyPost_ret (v := .agg #[.int .u64 (seq : Int), .int .i64 used, .int .i64 room, .int .i64 pages]) ?_ rfl ⟨?_, ?_⟩
  · refine results_row1 (fn := Try.f16) (p := 2) rfl _ _ (w.heap.size + 1) 36 _ (0, 0) _ rfl ?_ Try.underlying36 rfl ?_
    · simpa using heap_new (w.alloc (.cells #[.int .u64 (seq : Int), .int .i64 used, .int .i64 room, .int .i64 pages] 35)) (.cells #[.int .u64 (seq : Int), .int .i64 used, .int .i64 room, .int .i64 pages] 36)
    · kernel_rfl
  · rfl
  · exact Grow.trans (Grow.alloc _ _) (Grow.alloc _ _)
end Go.Proofs.Ytcfkcdfjianeiaa
