/- No index: what every call answers. -/
import Derived.Test.YthmbnffddpnehaaILaws
namespace Go.Proofs.Ythmbnffddpnehaa
open Go.RowKit
set_option linter.unusedVariables false
set_option linter.unusedSimpArgs false
/-- No index at all, or one that was not made. -/
def NoIx (w : World) (q : Option Addr) : Prop := q = none ∨ ∃ p, q = some ⟨p, 0, none⟩ ∧ w.heap[p]? = some (.cells #[.pointer none, .map none, .int .i64 0] 69 (0, 0))
theorem NoIx.grow {w w' : World} {q : Option Addr} (h : NoIx w q) (g : Grow w w') : NoIx w' q := by
  rcases h with h | ⟨p, h1, h2⟩
  · exact .inl h
  · exact .inr ⟨p, h1, g.heap h2⟩
theorem NoIx.ptr {w : World} {q : Option Addr} (h : NoIx w q) : Ptr w q .nil := by
  rcases h with h | ⟨p, h1, h2⟩
  · exact .inl ⟨h, rfl⟩
  · exact .inr ⟨p, h1, by rw [heap_cell h2]; rfl, trivial⟩
theorem lookNil (w : World) (k : Int) (hk : -9223372036854775808 ≤ k ∧ k ≤ 9223372036854775807) : (Instr.lookup 67 (.map none) (.int .i64 k) true).run Try.prog w = .ok (.tuple #[.int .i64 0, .bool false]) w := by
  simpa using Maps.look_nil (w := w) true keyedInt Try.underlying67 (zeroI _) (Maps.keyOf_int_mk Try.underlying3 (wf_i hk))
set_option maxRecDepth 100000 in
theorem AddNo_c (q : Option Addr) (f t : Int) (v : ByteArray) (w : World) (h : NoIx w q) : Calls Try.prog 30 #[.pointer q, .int .i64 f, .int .i64 t, .string v] w fun e w' => e = .returned (.tuple #[.int .i64 0, .int .i64 3]) ∧ Grow w w' := by
  rcases h with rfl | ⟨p, rfl, hp⟩
  · go_enter Try.func30, Try.ntmps30
    go_wp2_with fail
    go_ret2
    exact ⟨rfl, Grow.refl _⟩
  · have c1 : w.cell? ⟨p, 1, none⟩ = some (.map none) := by rw [heap_cell hp]; rfl
    have hl := heap_lt hp
    have hmn : ∀ (w : World) (r : Option Nat), (binOp .eql 67 (.map r) (.map none)).run Try.prog w = .ok (.bool r.isNone) w := fun w r => run_eql_map_nil w 67 3 3 r Try.underlying67
    go_enter Try.func30, Try.ntmps30
    go_wp2_with fail
    go_ret2
    exact ⟨rfl, Grow.refl _⟩
set_option maxRecDepth 100000 in
theorem GetNobody_c (q : Option Addr) (k : Int) (hk : -9223372036854775808 ≤ k ∧ k ≤ 9223372036854775807) (w : World) (h : NoIx w q) : Calls Try.prog 24 #[.pointer q, .int .i64 k] w fun e w' => e = .returned (.tuple #[itemV none, .bool false]) ∧ Grow w w' := by
  unfold itemV
  dsimp only
  rcases h with rfl | ⟨p, rfl, hp⟩
  · go_enter Try.func24, Try.ntmps24
    go_wp2_with fail
    (try simp only [Exit.inBlock, Exit.then])
    refine bodyPost_ret (v := .tuple #[.agg #[.int .i64 0, .int .i64 0, .string ByteArray.empty], .bool false]) ?_ rfl ⟨rfl, Grow.alloc _ _⟩
    refine results_cellK2 (fn := Try.f24) (p := 4) (u := 5) rfl _ _ w.heap.size 46 _ (0, 0) _ rfl (heap_newAt _ _ rfl) Try.underlying46 rfl ?_
    kernel_rfl
  · have c1 : w.cell? ⟨p, 1, none⟩ = some (.map none) := by rw [heap_cell hp]; rfl
    have hl := heap_lt hp
    have HLK := hid (fun w => lookNil w k hk)
    go_enter Try.func24, Try.ntmps24
    go_wp2_with (first | (at_lookup; refine wpList_lookupc_run _ rfl _ _ _ true rfl _ _ _ rfl rfl (HLK.out _) ?_) | fail)
    (try simp only [Exit.inBlock, Exit.then])
    refine bodyPost_ret (v := .tuple #[.agg #[.int .i64 0, .int .i64 0, .string ByteArray.empty], .bool false]) ?_ rfl ⟨rfl, Grow.alloc _ _⟩
    refine results_cellK2 (fn := Try.f24) (p := 4) (u := 5) rfl _ _ w.heap.size 46 _ (0, 0) _ rfl (heap_newAt _ _ rfl) Try.underlying46 rfl ?_
    kernel_rfl
set_option maxRecDepth 100000 in
theorem RemoveNobody_c (q : Option Addr) (k : Int) (hk : -9223372036854775808 ≤ k ∧ k ≤ 9223372036854775807) (w : World) (h : NoIx w q) : Calls Try.prog 23 #[.pointer q, .int .i64 k] w fun e w' => e = .returned (.bool false) ∧ Grow w w' := by
  rcases h with rfl | ⟨p, rfl, hp⟩
  · go_enter Try.func23, Try.ntmps23
    go_wp2_with fail
    go_ret
    exact ⟨rfl, Grow.refl _⟩
  · have c1 : w.cell? ⟨p, 1, none⟩ = some (.map none) := by rw [heap_cell hp]; rfl
    have hl := heap_lt hp
    have HLK := hid (fun w => lookNil w k hk)
    go_enter Try.func23, Try.ntmps23
    go_wp2_with (first | (at_lookup; refine wpList_lookupc_run _ rfl _ _ _ true rfl _ _ _ rfl rfl (HLK.out _) ?_) | fail)
    go_ret
    exact ⟨rfl, Grow.refl _⟩
set_option maxRecDepth 100000 in
theorem LenNobody_c (q : Option Addr) (w : World) (h : NoIx w q) : Calls Try.prog 25 #[.pointer q] w fun e w' => e = .returned (.int .i64 0) ∧ Grow w w' := by
  rcases h with rfl | ⟨p, rfl, hp⟩
  · go_enter Try.func25, Try.ntmps25
    go_wp2_with fail
    go_ret
    exact ⟨rfl, Grow.refl _⟩
  · have c1 : w.cell? ⟨p, 1, none⟩ = some (.map none) := by rw [heap_cell hp]; rfl
    have hl := heap_lt hp
    go_enter Try.func25, Try.ntmps25
    go_wp2_with fail
    go_ret
    exact ⟨rfl, Grow.refl _⟩
set_option maxRecDepth 100000 in
theorem HeightNobody_c (q : Option Addr) (w : World) (h : NoIx w q) : Calls Try.prog 29 #[.pointer q] w fun e w' => e = .returned (.int .i64 0) ∧ Grow w w' := by
  rcases h with rfl | ⟨p, rfl, hp⟩
  · go_enter Try.func29, Try.ntmps29
    go_wp2_with fail
    go_ret
    exact ⟨rfl, Grow.refl _⟩
  · have c0 : w.cell? ⟨p, 0, none⟩ = some (.pointer none) := by rw [heap_cell hp]; rfl
    have hl := heap_lt hp
    have HH := hid (height_c .nil w trivial)
    go_enter Try.func29, Try.ntmps29
    go_wp2_with fail
    refine HH.out.mono ?_
    rintro e w2 ⟨rfl, rfl⟩
    simp only [Tr.high]
    go_wp2_with fail
    go_ret
    exact ⟨rfl, Grow.refl _⟩
theorem metNobody_c (q : Option Addr) (f t : Int) (w : World) (h : NoIx w q) : Calls Try.prog 16 #[.pointer q, .int .i64 f, .int .i64 t, .int .i64 9] w fun e w' => (∃ A c, e = .returned (.slice A 0 c)) ∧ Grow w w' := by
  refine (met_c q .nil f t 9 w h.ptr (by simp [Tr.items, Rises]) (by omega) (by omega)).mono ?_
  rintro e w' ⟨lv, rfl, ho, g⟩
  have e1 : ((metL Tr.nil.items f t).take (9 : Int).toNat).length = 0 := by simp [metL, Tr.items]
  obtain ⟨A, c, rfl⟩ := own_form ho
  rw [e1]
  exact ⟨⟨A, c, rfl⟩, g⟩
end Go.Proofs.Ythmbnffddpnehaa
