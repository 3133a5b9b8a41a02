/- What the reference's calls compute: Get. -/
import Derived.Test.YtjccfodadiaokaaCRef
import Derived.Deep.RegionHeld3
namespace Go.Proofs.Ytjccfodadiaokaa
open Go.RowKit
set_option linter.unusedVariables false
set_option linter.unusedSimpArgs false
theorem results_cellK3 {P : Program} {fn : Func} {p u u2 : Tmp} {ty : TypeId} (h : fn.results = #[.cell p ty, .tmp u, .tmp u2]) (tmps : Array Value) (w : World) (g : Nat) (t : TypeId) (cs : Array Value) (fr : Nat × Nat) (d : TypeDesc)
    (hp : tmps.getD p undef = .pointer (some ⟨g, 0, none⟩)) (hg : w.heap[g]? = some (.cells cs t fr))
    (hu : P.underlying ty = some d) (hd : (match d with | .struct _ | .array _ _ => true | _ => false) = true) (hi : (P.info? ty).map (·.size) = some cs.size) :
    (results fn tmps).run P w = .ok (.tuple #[.agg cs, tmps.getD u undef, tmps.getD u2 undef]) w := by
  have hp' : tmps[p]?.getD undef = .pointer (some ⟨g, 0, none⟩) := by simpa using hp
  simp [results, h, hp', asAddr, Result.andThen, run_loadVar_row w g t ty cs fr d hg hu hd hi]
theorem results_cellK4 {P : Program} {fn : Func} {p u u2 u3 : Tmp} {ty : TypeId} (h : fn.results = #[.cell p ty, .tmp u, .tmp u2, .tmp u3]) (tmps : Array Value) (w : World) (g : Nat) (t : TypeId) (cs : Array Value) (fr : Nat × Nat) (d : TypeDesc)
    (hp : tmps.getD p undef = .pointer (some ⟨g, 0, none⟩)) (hg : w.heap[g]? = some (.cells cs t fr))
    (hu : P.underlying ty = some d) (hd : (match d with | .struct _ | .array _ _ => true | _ => false) = true) (hi : (P.info? ty).map (·.size) = some cs.size) :
    (results fn tmps).run P w = .ok (.tuple #[.agg cs, tmps.getD u undef, tmps.getD u2 undef, tmps.getD u3 undef]) w := by
  have hp' : tmps[p]?.getD undef = .pointer (some ⟨g, 0, none⟩) := by simpa using hp
  simp [results, h, hp', asAddr, Result.andThen, run_loadVar_row w g t ty cs fr d hg hu hd hi]
theorem ROwn.set {w : World} {v : Value} {L : List CItem} (h : ROwn w v L) {b : Nat} {cs : Array Value} {fr : Nat × Nat} (hb : w.heap[b]? = some (.cells cs 57 fr)) (o : Nat) (u : Value) : ROwn (w.setCell ⟨b, o, none⟩ u) v L := by
  obtain ⟨⟨base, h⟩, hl⟩ := h
  refine ⟨⟨base, h.1, ?_⟩, hl⟩
  rcases h.2 with h | ⟨g, cap, cur, h, h2, hg, h4⟩
  · exact .inl h
  · refine .inr ⟨g, cap, cur, h, h2, heap_keep hg ⟨b, o, none⟩ u ?_, h4⟩
    rintro rfl
    rw [hb] at hg
    injection hg with hg
    injection hg with _ e _
    exact absurd e (by decide)
theorem ROwn.set2 {w : World} {v : Value} {L : List CItem} (h : ROwn w v L) {b : Nat} {cs : Array Value} {fr : Nat × Nat} (hb : w.heap[b]? = some (.cells cs 57 fr)) (u u' : Value) : ROwn ((w.setCell ⟨b, 0, none⟩ u).setCell ⟨b, 1, none⟩ u') v L :=
  ROwn.set (h.set hb 0 u) (heap_set hb 0 u) 1 u'
set_option maxRecDepth 100000 in
set_option maxHeartbeats 4000000 in
theorem RGetNo_c (most : Int) (v : Value) (l : List CItem) (k : Int) (w : World) (hv : ROwn w v l) (hb : ∀ x ∈ l, x.key ≠ k) :
    Calls Try.prog 35 #[.agg #[.int .i64 most, v], .int .i64 k] w fun e w' => (∃ v', e = .returned (.tuple #[.agg #[.int .i64 most, v'], .string ByteArray.empty, .bool false]) ∧ ROwn w' v' l) ∧ Grow w w' := by
  have HF := hid (fun (w' : World) (g : Grow w w') => RFindNo_c most v l k w' (hv.grow g).items hb)
  have HV := hid hv
  obtain ⟨A, c, rfl, -, -, -⟩ := hv.items
  clear hv hb
  generalize l.length = n at *
  unfold rrow noItem at HF
  dsimp only at HF
  have G2 := hid (Grow.trans (Grow.alloc w (.cells #[.int .i64 most, .slice A n c] 57)) (Grow.alloc _ (.cells #[.int .i64 0, .slice none 0 0] 57)))
  have B0 := hid (heap_alloc_keep (heap_new w (.cells #[.int .i64 most, .slice A n c] 57)) (.cells #[.int .i64 0, .slice none 0 0] 57))
  have B1 := hid (heap_newAt (g := w.heap.size + 1) (w.alloc (.cells #[.int .i64 most, .slice A n c] 57)) (.cells #[.int .i64 0, .slice none 0 0] 57) (by simp))
  go_enter Try.func35, Try.ntmps35
  go_wp2_with fail
  refine (HF.out _ G2.out).mono ?_
  rintro e w4 ⟨rfl, g4⟩
  have b0 := g4.heap B0.out
  have b1 := g4.heap B1.out
  have hg4 := Grow.trans G2.out g4
  have G4 := hid hg4
  clear g4 B0 B1 G2 HF hg4
  have p0 : w4.cell? ⟨w.heap.size, 0, none⟩ = some (.int .i64 most) := by rw [heap_cell b0]; rfl
  have p1 : w4.cell? ⟨w.heap.size, 1, none⟩ = some (.slice A n c) := by rw [heap_cell b0]; rfl
  have q0 : w4.cell? ⟨w.heap.size + 1, 0, none⟩ = some (.int .i64 0) := by rw [heap_cell b1]; rfl
  have q1 : w4.cell? ⟨w.heap.size + 1, 1, none⟩ = some (.slice none 0 0) := by rw [heap_cell b1]; rfl
  have q2 : w4.frozen? ⟨w.heap.size + 1, 0, none⟩ = false := heap_frozen b1 0 (by omega)
  have q3 : w4.frozen? ⟨w.heap.size + 1, 1, none⟩ = false := heap_frozen b1 1 (by omega)
  have hl1 := heap_lt b1
  have hl0 := heap_lt b0
  have K1 := hid b1
  clear b0 b1
  go_wp2_with fail
  (try simp only [Exit.inBlock, Exit.then])
  refine bodyPost_ret (v := .tuple #[.agg #[.int .i64 most, .slice A n c], .string ByteArray.empty, .bool false]) ?_ rfl ⟨⟨_, rfl, ?_⟩, ?_⟩
  · refine results_cellK3 (fn := Try.f35) (p := 4) (u := 5) (u2 := 6) rfl _ _ (w.heap.size + 1) 57 _ (0, 0) _ rfl (heap_alloc_keep (heap_set (heap_set K1.out 0 _) 1 _) _) Try.underlying57 rfl ?_
    kernel_rfl
  · exact HV.out.grow (Below.mono' (Below.setCell (Below.setCell G4.out (by show w.heap.size ≤ w.heap.size + 1; omega) _) (by show w.heap.size ≤ w.heap.size + 1; omega) _) (by simp; omega) _)
  · exact (Below.mono' (Below.setCell (Below.setCell G4.out (by show w.heap.size ≤ w.heap.size + 1; omega) _) (by show w.heap.size ≤ w.heap.size + 1; omega) _) (by simp; omega) _)
set_option maxRecDepth 100000 in
set_option maxHeartbeats 4000000 in
theorem RGetIn_c (most : Int) (v : Value) (l : List CItem) (k : Int) (i : Nat) (w : World) (hv : ROwn w v l) (hl : l.length ≤ 9999) (hi : i < l.length) (hk : (l[i]).key = k) (hb : ∀ j (h : j < l.length), j < i → (l[j]).key ≠ k) :
    Calls Try.prog 35 #[.agg #[.int .i64 most, v], .int .i64 k] w fun e w' => (∃ v', e = .returned (.tuple #[.agg #[.int .i64 most, v'], .string (l[i]).val, .bool true]) ∧ ROwn w' v' (l[i] :: without k l)) ∧ Grow w w' := by
  have HF := hid (fun (w' : World) (g : Grow w w') => RFindIn_c most v l k i w' (hv.grow g).items hi hk hb)
  have HA := hid (fun (w' : World) (g : Grow w w') => Rahead_c most v l l[i] w' (hv.grow g) hl)
  rw [hk] at HA
  generalize l[i] = x at *
  obtain ⟨A, c, rfl, -, -, -⟩ := hv.items
  clear hv hb
  generalize hL : x :: without k l = L at *
  generalize l.length = n at *
  obtain ⟨key, val, pins⟩ := x
  unfold rrow at HF HA
  unfold CPost at HA
  dsimp only at HF HA hk ⊢
  have G2 := hid (Grow.trans (Grow.alloc w (.cells #[.int .i64 most, .slice A n c] 57)) (Grow.alloc _ (.cells #[.int .i64 0, .slice none 0 0] 57)))
  have B0 := hid (heap_alloc_keep (heap_new w (.cells #[.int .i64 most, .slice A n c] 57)) (.cells #[.int .i64 0, .slice none 0 0] 57))
  have B1 := hid (heap_newAt (g := w.heap.size + 1) (w.alloc (.cells #[.int .i64 most, .slice A n c] 57)) (.cells #[.int .i64 0, .slice none 0 0] 57) (by simp))
  clear hk hL
  go_enter Try.func35, Try.ntmps35
  go_wp2_with fail
  refine (HF.out _ G2.out).mono ?_
  rintro e w4 ⟨rfl, g4⟩
  have b0 := (Grow.alloc w4 (.cells #[.int .i64 key, .string val, .int .i64 pins] 53)).heap (g4.heap B0.out)
  have b1 := (Grow.alloc w4 (.cells #[.int .i64 key, .string val, .int .i64 pins] 53)).heap (g4.heap B1.out)
  have hg4 := Grow.trans (Grow.trans G2.out g4) (Grow.alloc w4 (.cells #[.int .i64 key, .string val, .int .i64 pins] 53))
  have b2 := heap_new w4 (.cells #[.int .i64 key, .string val, .int .i64 pins] 53)
  have G4 := hid hg4
  have hle : w.heap.size + 1 < w4.heap.size := heap_lt (g4.heap B1.out)
  clear g4 B0 B1 G2 HF hg4
  go_wp2_with fail
  have hsz : (w4.alloc (.cells #[.int .i64 key, .string val, .int .i64 pins] 53)).heap.size = w4.heap.size + 1 := by simp
  generalize w4.alloc (.cells #[.int .i64 key, .string val, .int .i64 pins] 53) = W at *
  generalize w4.heap.size = D at *
  have p0 : W.cell? ⟨w.heap.size, 0, none⟩ = some (.int .i64 most) := by rw [heap_cell b0]; rfl
  have p1 : W.cell? ⟨w.heap.size, 1, none⟩ = some (.slice A n c) := by rw [heap_cell b0]; rfl
  have d0 : W.cell? ⟨D, 0, none⟩ = some (.int .i64 key) := by rw [heap_cell b2]; rfl
  have d1 : W.cell? ⟨D, 1, none⟩ = some (.string val) := by rw [heap_cell b2]; rfl
  have d2 : W.cell? ⟨D, 2, none⟩ = some (.int .i64 pins) := by rw [heap_cell b2]; rfl
  have hl1 := heap_lt b1
  have hl0 := heap_lt b0
  have K1 := hid b1
  have hD1 : D ≠ w.heap.size + 1 := by omega
  have hD2 : w.heap.size + 1 ≠ D := by omega
  clear b0 b1 b2
  go_region_held3 (fun w' => w'.cell? ⟨w.heap.size, 0, none⟩ = some (.int .i64 most) ∧ w'.cell? ⟨w.heap.size, 1, none⟩ = some (.slice A n c) ∧ w'.cell? ⟨D, 0, none⟩ = some (.int .i64 key) ∧ w'.cell? ⟨D, 1, none⟩ = some (.string val) ∧ w'.cell? ⟨D, 2, none⟩ = some (.int .i64 pins)) (go_keep)
    ((go_at_call 50; refine (HA.out _ (by first | exact G4.out | exact Grow.trans G4.out (Grow.drew _) | exact Grow.trans G4.out (Grow.drewNG _ _))).mono ?_; rintro e w5 ⟨v5, rfl, o5, g5⟩; have r0 : w5.cell? ⟨w.heap.size, 0, none⟩ = some (.int .i64 most) := g5.cell p0; have r1 : w5.cell? ⟨w.heap.size, 1, none⟩ = some (.slice A n c) := g5.cell p1; have r2 : w5.cell? ⟨D, 0, none⟩ = some (.int .i64 key) := g5.cell d0; have r3 : w5.cell? ⟨D, 1, none⟩ = some (.string val) := g5.cell d1; have r4 : w5.cell? ⟨D, 2, none⟩ = some (.int .i64 pins) := g5.cell d2; have k1 := g5.heap K1.out; have q0 : w5.cell? ⟨w.heap.size + 1, 0, none⟩ = some (.int .i64 0) := (by rw [heap_cell k1]; rfl); have q1 : w5.cell? ⟨w.heap.size + 1, 1, none⟩ = some (.slice none 0 0) := (by rw [heap_cell k1]; rfl); have q2 : w5.frozen? ⟨w.heap.size + 1, 0, none⟩ = false := heap_frozen k1 0 (by omega); have q3 : w5.frozen? ⟨w.heap.size + 1, 1, none⟩ = false := heap_frozen k1 1 (by omega); have hsz5 := g5.size; have KK := hid k1; have G5 := hid (show Grow w w5 from (by first | exact Grow.trans G4.out g5 | exact Grow.trans (Grow.trans G4.out (Grow.drew _)) g5)); clear k1; have OO := hid o5; obtain ⟨⟨bb, ho⟩, hm5⟩ := o5; obtain ⟨A5, c5, rfl⟩ := own_form ho; clear ho hm5))
  go_wp2_with fail
  (try simp only [Exit.inBlock, Exit.then])
  refine bodyPost_ret (v := .tuple #[.agg #[.int .i64 most, .slice A5 L.length c5], .string val, .bool true]) ?_ rfl ⟨⟨_, rfl, ?_⟩, ?_⟩
  · refine results_cellK3 (fn := Try.f35) (p := 4) (u := 5) (u2 := 6) rfl _ _ (w.heap.size + 1) 57 _ (0, 0) _ rfl (heap_set (heap_set KK.out 0 _) 1 _) Try.underlying57 rfl ?_
    kernel_rfl
  · exact OO.out.set2 KK.out _ _
  · exact Below.setCell (Below.setCell G5.out (by show w.heap.size ≤ w.heap.size + 1; omega) _) (by show w.heap.size ≤ w.heap.size + 1; omega) _
end Go.Proofs.Ytjccfodadiaokaa
