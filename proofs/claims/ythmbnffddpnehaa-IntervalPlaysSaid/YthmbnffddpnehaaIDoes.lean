/- A call of both, the index and the reference's. -/
import Derived.Test.YthmbnffddpnehaaILaws
namespace Go.Proofs.Ythmbnffddpnehaa
open Go.RowKit
set_option linter.unusedVariables false
set_option linter.unusedSimpArgs false
/-- Both, at a law's own place. -/
def PlayAt (w0 wr : World) (p rb : Nat) (s : List It × Int) : Prop := ∃ v' N T mb, IxAt wr w0.heap.size p s.1 s.2 N T mb ∧ (N : Int) ≤ s.2 ∧ ROwn wr v' s.1 ∧ wr.heap[rb]? = some (.cells #[v', .int .i64 s.2] 26 (0, 0)) ∧ Turn w0.heap.size w0 wr ∧ w0.heap.size ≤ rb
def playF (s : List It × Int) (a : ActR) : List It × Int := if a.kind = 0 then fillF s a else if a.kind = 1 then (wout a.id s.1, s.2) else s
theorem RemoveAny2_c {w : World} {B p : Nat} {L : List It} {nx : Int} {N : Nat} {T : Tr} {mb : Nat} (k : Int) (hk : -9223372036854775808 ≤ k ∧ k ≤ 9223372036854775807) (hL : L.length ≤ 500000) (h : IxAt w B p L nx N T mb) :
    Calls Try.prog 23 #[.pointer (some ⟨p, 0, none⟩), .int .i64 k] w fun e w'' => e = .returned (.bool (look L k).isSome) ∧ (∃ T' mb', IxAt w'' B p (wout k L) nx N T' mb') ∧ Turn B w w'' := by
  cases hl : look L k with
  | none =>
    have := RemoveNo_c k hk h hl
    unfold RemIx at this
    rw [hl] at this
    exact this
  | some z =>
    have := RemoveYes_c k hk z hL h hl
    unfold RemIx at this
    rw [hl] at this
    exact this
theorem wout_there (k : Int) (l : List It) : decide (((wout k l).length : Int) < (l.length : Int)) = (look l k).isSome := by
  have hle : (wout k l).length ≤ l.length := by unfold wout; exact List.length_filter_le _ _
  by_cases h : (wout k l).length < l.length
  · rw [wout_some h]
    exact decide_eq_true (by omega)
  · rw [wout_none (by omega)]
    exact decide_eq_false (by omega)
theorem Turn.setOld {B : Nat} {a w : World} (h : Turn B a w) {b : Nat} {cs : Array Value} {e : TypeId} {fr : Nat × Nat} (hb : w.heap[b]? = some (.cells cs e fr)) (hB : B ≤ b) (ha : a.heap.size ≤ b) (v1 v2 : Value) : Turn B a ((w.setCell ⟨b, 0, none⟩ v1).setCell ⟨b, 1, none⟩ v2) :=
  (h.setB hb hB ha 0 v1).setB (heap_set hb 0 v1) hB ha 1 v2
/-- What the index and the reference are behind an Add. -/
def addR (s : List It × Int) (f t : Int) (v : ByteArray) : (List It × Int) × Int × Int := if t < f then (s, 0, 31) else ((addL ⟨s.2 + 1, f, t, v⟩ s.1, s.2 + 1), s.2 + 1, 0)
theorem addR_fill (s : List It × Int) (f t : Int) (v : ByteArray) (id : Int) : (addR s f t v).1 = fillF s ⟨0, f, t, v, id⟩ := by
  unfold addR fillF
  by_cases h : t < f
  · simp [h]
  · simp [h]
theorem addR_le (s : List It × Int) (f t : Int) (v : ByteArray) : s.2 ≤ (addR s f t v).1.2 := by
  unfold addR
  split
  · exact Int.le_refl _
  · dsimp only; omega
theorem RAddAny_c (last : Int) (v : Value) (l : List It) (f t : Int) (s : ByteArray) (w : World) (hv : ROwn w v l) (hl0 : 0 ≤ last) (hl1 : last ≤ 500000) (hln : l.length ≤ 9000) :
    Calls Try.prog 31 #[.agg #[v, .int .i64 last], .int .i64 f, .int .i64 t, .string s] w fun e w' => (∃ v', e = .returned (.tuple #[.agg #[v', .int .i64 (addR (l, last) f t s).1.2], .int .i64 (addR (l, last) f t s).2.1, .int .i64 (addR (l, last) f t s).2.2]) ∧ ROwn w' v' (addR (l, last) f t s).1.1) ∧ Grow w w' := by
  by_cases h : t < f
  · refine (RAddBad_c last v l f t s w hv h).mono ?_
    rintro e w' ⟨rfl, g⟩
    unfold addR
    rw [if_pos h]
    exact ⟨⟨v, rfl, hv.grow g⟩, g⟩
  · refine (RAddGood_c last v l f t s w hv h hl0 hl1 hln).mono ?_
    rintro e w' ⟨v', rfl, ho, g⟩
    unfold addR
    rw [if_neg h]
    exact ⟨⟨v', rfl, ho⟩, g⟩
theorem AddAny_c {w : World} {B p : Nat} {L : List It} {nx : Int} {N : Nat} {T : Tr} {mb : Nat} (f t : Int) (v : ByteArray) (h : IxAt w B p L nx N T mb) (hN : (N : Int) ≤ nx) (hL : L.length ≤ 500) (h1 : nx ≤ 500) (hf : -9223372036854775808 ≤ f) (ht : t ≤ 9223372036854775807) :
    Calls Try.prog 30 #[.pointer (some ⟨p, 0, none⟩), .int .i64 f, .int .i64 t, .string v] w fun e w' => e = .returned (.tuple #[.int .i64 (addR (L, nx) f t v).2.1, .int .i64 (addR (L, nx) f t v).2.2]) ∧ (∃ N' T' mb', IxAt w' B p (addR (L, nx) f t v).1.1 (addR (L, nx) f t v).1.2 N' T' mb' ∧ (N' : Int) ≤ (addR (L, nx) f t v).1.2) ∧ Turn B w w' := by
  by_cases hft : t < f
  · refine (AddBad_c f t v h hft).mono ?_
    intro e w' hh
    unfold AddPost at hh
    rw [if_pos hft] at hh
    obtain ⟨rfl, rfl⟩ := hh
    unfold addR
    rw [if_pos hft]
    exact ⟨rfl, ⟨N, T, mb, h, hN⟩, Turn.refl _ _⟩
  · refine (AddGood_c f t v h hft (by omega) (by omega) (by omega) (by omega) hf ht).mono ?_
    intro e w' hh
    unfold AddPost at hh
    rw [if_neg hft] at hh
    obtain ⟨rfl, ⟨T', mb', hi⟩, ht⟩ := hh
    unfold addR
    rw [if_neg hft]
    exact ⟨rfl, ⟨N + 1, T', mb', hi, by push_cast; omega⟩, ht⟩
set_option maxRecDepth 100000 in
set_option maxHeartbeats 8000000 in
theorem does0_c (w0 wr : World) (p rb : Nat) (L : List It) (nx f t id : Int) (s : ByteArray) (hP : PlayAt w0 wr p rb (L, nx)) (h0 : 0 ≤ nx) (h1 : nx ≤ 400) (hL : L.length ≤ 400) (hf : -9223372036854775808 ≤ f ∧ f ≤ 9223372036854775807) (ht : -9223372036854775808 ≤ t ∧ t ≤ 9223372036854775807) :
    Calls Try.prog 27 #[.pointer (some ⟨p, 0, none⟩), .pointer (some ⟨rb, 0, none⟩), .agg #[.int .i64 0, .int .i64 f, .int .i64 t, .string s, .int .i64 id]] wr fun e w' => e = .returned (.bool true) ∧ PlayAt w0 w' p rb (playF (L, nx) ⟨0, f, t, s, id⟩) := by
  obtain ⟨v', N, T, mb, hix, hN, hro, hr, hT, hrb⟩ := hP
  dsimp only at hix hN hro hr
  have HG := hid (fun (w' : World) (g : Grow wr w') => RAddAny_c nx _ L f t s w' (hro.grow g) h0 (by omega) (by omega))
  have HX := hid (fun (w' : World) (g : Grow wr w') => AddAny_c f t s (hix.grow g) hN (by omega) (by omega) hf.1 ht.2)
  have hres : playF (L, nx) ⟨0, f, t, s, id⟩ = (addR (L, nx) f t s).1 := by rw [addR_fill (L, nx) f t s id]; unfold playF; rw [if_pos rfl]
  rw [hres]
  clear hres
  generalize addR (L, nx) f t s = R at *
  obtain ⟨⟨L2, s2⟩, nn, ee⟩ := R
  dsimp only at HG HX ⊢
  obtain ⟨A, c, hv, -, -, -⟩ := hro.items
  subst hv
  have HT := hid hT
  generalize L.length = ln at *
  have HR := hid hr
  have hlr := heap_lt hr
  have p0 : wr.cell? ⟨rb, 0, none⟩ = some (.slice A ln c) := by rw [heap_cell hr]; rfl
  have p1 : wr.cell? ⟨rb, 1, none⟩ = some (.int .i64 nx) := by rw [heap_cell hr]; rfl
  clear hro hr hix hN hT hf ht h0 h1
  have b0 := heap_new wr (.cells #[.int .i64 0, .int .i64 f, .int .i64 t, .string s, .int .i64 id] 63)
  have g2 := Grow.alloc wr (.cells #[.int .i64 0, .int .i64 f, .int .i64 t, .string s, .int .i64 id] 63)
  have hsz : (wr.alloc (.cells #[.int .i64 0, .int .i64 f, .int .i64 t, .string s, .int .i64 id] 63)).heap.size = wr.heap.size + 1 := by simp
  go_enter Try.func27, Try.ntmps27
  go_wp2_with fail
  generalize wr.alloc (.cells #[.int .i64 0, .int .i64 f, .int .i64 t, .string s, .int .i64 id] 63) = W at *
  have G2 := hid g2
  have q0 := G2.out.cell p0
  have q1 := G2.out.cell p1
  have r1 : W.cell? ⟨wr.heap.size, 1, none⟩ = some (.int .i64 f) := by rw [heap_cell b0]; rfl
  have r2 : W.cell? ⟨wr.heap.size, 2, none⟩ = some (.int .i64 t) := by rw [heap_cell b0]; rfl
  have r3 : W.cell? ⟨wr.heap.size, 3, none⟩ = some (.string s) := by rw [heap_cell b0]; rfl
  have B0 := hid b0
  clear b0 g2 p0 p1
  have n2 : rb ≠ wr.heap.size + 1 := by omega
  have n3 : wr.heap.size + 1 ≠ rb := by omega
  have n6 : wr.heap.size ≠ wr.heap.size + 1 := by omega
  have n7 : wr.heap.size + 1 ≠ wr.heap.size := by omega
  have hlW := heap_lt B0.out
  go_region_held3 (fun w' => w'.cell? ⟨rb, 0, none⟩ = some (.slice A ln c) ∧ w'.cell? ⟨rb, 1, none⟩ = some (.int .i64 nx) ∧ w'.cell? ⟨wr.heap.size, 1, none⟩ = some (.int .i64 f) ∧ w'.cell? ⟨wr.heap.size, 2, none⟩ = some (.int .i64 t) ∧ w'.cell? ⟨wr.heap.size, 3, none⟩ = some (.string s)) (go_keep)
    ((go_at_call 31; first
      | (refine (HG.out _ (Grow.trans G2.out (Grow.drew _))).mono ?_; rintro e w5 ⟨⟨v5, rfl, o5⟩, g5⟩; have G5 := hid (Grow.trans (Grow.drew _) g5); have t0 := g5.cell q0; have t1 := g5.cell q1; have t2 := g5.cell r1; have t3 := g5.cell r2; have t4 := g5.cell r3; have OO := hid o5; obtain ⟨A5, c5, hv5, -, -, -⟩ := o5.items; subst hv5; have g5s := G5.out.size; have n0 : rb ≠ w5.heap.size := (by omega); have n1 : wr.heap.size ≠ w5.heap.size := (by omega); have n4 : w5.heap.size ≠ rb := (by omega); have n5 : w5.heap.size ≠ wr.heap.size := (by omega); clear o5 g5)
      | (refine (HG.out _ (Grow.trans G2.out (Grow.trans (Grow.alloc _ _) (Grow.drew _)))).mono ?_; rintro e w5 ⟨⟨v5, rfl, o5⟩, g5⟩; have G5 := hid (Grow.trans (Grow.trans (Grow.alloc _ _) (Grow.drew _)) g5); have t0 := g5.cell (Grow.cell (Grow.trans (Grow.alloc _ _) (Grow.drew _)) q0); have t1 := g5.cell (Grow.cell (Grow.trans (Grow.alloc _ _) (Grow.drew _)) q1); have t2 := g5.cell (Grow.cell (Grow.trans (Grow.alloc _ _) (Grow.drew _)) r1); have t3 := g5.cell (Grow.cell (Grow.trans (Grow.alloc _ _) (Grow.drew _)) r2); have t4 := g5.cell (Grow.cell (Grow.trans (Grow.alloc _ _) (Grow.drew _)) r3)
         have kk := g5.heap ((Grow.drew _).heap (heap_new W (.cells #[.slice none 0 0, .int .i64 0] 26)))
         rw [hsz] at kk
         have y0 : w5.cell? ⟨wr.heap.size + 1, 0, none⟩ = some (.slice none 0 0) := (by rw [heap_cell kk]; rfl)
         have y1 : w5.cell? ⟨wr.heap.size + 1, 1, none⟩ = some (.int .i64 0) := (by rw [heap_cell kk]; rfl)
         have y2 : w5.frozen? ⟨wr.heap.size + 1, 0, none⟩ = false := heap_frozen kk 0 (by omega)
         have y3 : w5.frozen? ⟨wr.heap.size + 1, 1, none⟩ = false := heap_frozen kk 1 (by omega)
         have KK := hid kk
         clear kk
         have OO := hid o5; obtain ⟨A5, c5, hv5, -, -, -⟩ := o5.items; subst hv5; clear o5 g5)))
  all_goals clear HG
  all_goals go_wp2_with fail
  all_goals first
    | (have k6 := heap_new w5 (.cells #[.slice A5 L2.length c5, .int .i64 s2] 26)
       have G6 := hid (Grow.trans G2.out (Grow.trans G5.out (Grow.alloc w5 (.cells #[.slice A5 L2.length c5, .int .i64 s2] 26))))
       have o6 := hid (OO.out.grow (Grow.alloc w5 (.cells #[.slice A5 L2.length c5, .int .i64 s2] 26)))
       refine (HX.out _ G6.out).mono ?_
       rintro e w7 ⟨rfl, ⟨N7, T7, mb7, hix7, hN7⟩, tt7⟩
       generalize w5.alloc (.cells #[.slice A5 L2.length c5, .int .i64 s2] 26) = W6 at *
       generalize w5.heap.size = X at *)
    | (have k6 : ((w5.setCell ⟨wr.heap.size + 1, 0, none⟩ (.slice A5 L2.length c5)).setCell ⟨wr.heap.size + 1, 1, none⟩ (.int .i64 s2)).heap[wr.heap.size + 1]? = some (.cells #[.slice A5 L2.length c5, .int .i64 s2] 26 (0, 0)) := heap_set (heap_set KK.out 0 (.slice A5 L2.length c5)) 1 (.int .i64 s2)
       have G6 := hid (show Grow wr ((w5.setCell ⟨wr.heap.size + 1, 0, none⟩ (.slice A5 L2.length c5)).setCell ⟨wr.heap.size + 1, 1, none⟩ (.int .i64 s2)) from Below.setCell (Below.setCell (Grow.trans G2.out G5.out) (by show wr.heap.size ≤ wr.heap.size + 1; omega) _) (by show wr.heap.size ≤ wr.heap.size + 1; omega) _)
       have o6 := hid ((OO.out.setB KK.out (by decide) 0 (.slice A5 L2.length c5)).setB (heap_set KK.out 0 _) (by decide) 1 (.int .i64 s2))
       refine (HX.out _ G6.out).mono ?_
       rintro e w7 ⟨rfl, ⟨N7, T7, mb7, hix7, hN7⟩, tt7⟩
       generalize (w5.setCell ⟨wr.heap.size + 1, 0, none⟩ (.slice A5 L2.length c5)).setCell ⟨wr.heap.size + 1, 1, none⟩ (.int .i64 s2) = W6 at *
       generalize wr.heap.size + 1 = X at *)
  all_goals
    have x7 := tt7.keep _ _ k6 (by simp [otherI])
    have r7 := tt7.keep _ _ (G6.out.heap HR.out) (by simp [otherI])
    have y0 : w7.cell? ⟨X, 0, none⟩ = some (.slice A5 L2.length c5) := by rw [heap_cell x7]; rfl
    have y1 : w7.cell? ⟨X, 1, none⟩ = some (.int .i64 s2) := by rw [heap_cell x7]; rfl
    have u0 : w7.cell? ⟨rb, 0, none⟩ = some (.slice A ln c) := by rw [heap_cell r7]; rfl
    have u1 : w7.cell? ⟨rb, 1, none⟩ = some (.int .i64 nx) := by rw [heap_cell r7]; rfl
    have u2 : w7.frozen? ⟨rb, 0, none⟩ = false := heap_frozen r7 0 (by omega)
    have u3 : w7.frozen? ⟨rb, 1, none⟩ = false := heap_frozen r7 1 (by omega)
    have lx := heap_lt x7
    have lr := heap_lt r7
    have HF := hid (show PlayAt w0 ((w7.setCell ⟨rb, 0, none⟩ (.slice A5 L2.length c5)).setCell ⟨rb, 1, none⟩ (.int .i64 s2)) p rb (L2, s2) from
      ⟨.slice A5 L2.length c5, N7, T7, mb7, (hix7.setB r7 (by simp [otherI]) 0 _).setB (heap_set r7 0 _) (by simp [otherI]) 1 _, hN7, ((o6.out.turn tt7).setB r7 (by decide) 0 _).setB (heap_set r7 0 _) (by decide) 1 _, heap_set (heap_set r7 0 _) 1 _, Turn.setOld ((HT.out.trans (Turn.of_grow G6.out HT.out.below.size)).trans tt7) r7 hrb hrb _ _, hrb⟩)
    clear hix7 hN7 tt7 k6 q0 q1 r1 r2 r3 t0 t1 t2 t3 t4
    clear x7 r7
    have ebb : (nn == nn) = true := by simp
    have ebe : (ee == ee) = true := by simp
    go_wp2_with fail
    go_ret
    exact ⟨rfl, HF.out⟩

set_option maxRecDepth 100000 in
set_option maxHeartbeats 8000000 in
theorem does1_c (w0 wr : World) (p rb : Nat) (L : List It) (nx f t id : Int) (s : ByteArray) (hP : PlayAt w0 wr p rb (L, nx)) (h0 : 0 ≤ nx) (h1 : nx ≤ 400) (hL : L.length ≤ 400) (hid0 : -9223372036854775808 ≤ id ∧ id ≤ 9223372036854775807) :
    Calls Try.prog 27 #[.pointer (some ⟨p, 0, none⟩), .pointer (some ⟨rb, 0, none⟩), .agg #[.int .i64 1, .int .i64 f, .int .i64 t, .string s, .int .i64 id]] wr fun e w' => e = .returned (.bool true) ∧ PlayAt w0 w' p rb (playF (L, nx) ⟨1, f, t, s, id⟩) := by
  obtain ⟨v', N, T, mb, hix, hN, hro, hr, hT, hrb⟩ := hP
  dsimp only at hix hN hro hr
  have HG := hid (fun (w' : World) (g : Grow wr w') => (RRemove_c nx _ L id w' (hro.grow g)).mono (R' := fun e w'' => (∃ v', e = .returned (.tuple #[.agg #[v', .int .i64 nx], .bool (look L id).isSome]) ∧ ROwn w'' v' (wout id L)) ∧ Grow w' w'') fun e w'' h => by
    obtain ⟨v', h1, h2, h3⟩ := h
    rw [wout_there] at h1
    exact ⟨⟨v', h1, h2⟩, h3⟩)
  have HX := hid (fun (w' : World) (h : IxAt w' w0.heap.size p L nx N T mb) => RemoveAny2_c id hid0 (by omega) h)
  have HIX := hid hix
  have hres : playF (L, nx) ⟨1, f, t, s, id⟩ = (wout id L, nx) := by unfold playF; rw [if_neg (show ¬ (1 : Int) = 0 by decide), if_pos rfl]
  rw [hres]
  clear hres
  generalize wout id L = L2 at *
  generalize (look L id).isSome = ok at *
  obtain ⟨A, c, hv, -, -, -⟩ := hro.items
  subst hv
  have HT := hid hT
  generalize L.length = ln at *
  have HR := hid hr
  have hlr := heap_lt hr
  have p0 : wr.cell? ⟨rb, 0, none⟩ = some (.slice A ln c) := by rw [heap_cell hr]; rfl
  have p1 : wr.cell? ⟨rb, 1, none⟩ = some (.int .i64 nx) := by rw [heap_cell hr]; rfl
  have HN := hid hN
  clear hro hr hix hN hT hid0 h0 h1
  have b0 := heap_new wr (.cells #[.int .i64 1, .int .i64 f, .int .i64 t, .string s, .int .i64 id] 63)
  have g2 := Grow.alloc wr (.cells #[.int .i64 1, .int .i64 f, .int .i64 t, .string s, .int .i64 id] 63)
  have hsz : (wr.alloc (.cells #[.int .i64 1, .int .i64 f, .int .i64 t, .string s, .int .i64 id] 63)).heap.size = wr.heap.size + 1 := by simp
  go_enter Try.func27, Try.ntmps27
  go_wp2_with fail
  generalize wr.alloc (.cells #[.int .i64 1, .int .i64 f, .int .i64 t, .string s, .int .i64 id] 63) = W at *
  have G2 := hid g2
  have q0 := G2.out.cell p0
  have q1 := G2.out.cell p1
  have r1 : W.cell? ⟨wr.heap.size, 4, none⟩ = some (.int .i64 id) := by rw [heap_cell b0]; rfl
  have B0 := hid b0
  clear b0 g2 p0 p1
  have n2 : rb ≠ wr.heap.size + 1 := by omega
  have n3 : wr.heap.size + 1 ≠ rb := by omega
  have n6 : wr.heap.size ≠ wr.heap.size + 1 := by omega
  have n7 : wr.heap.size + 1 ≠ wr.heap.size := by omega
  have hlW := heap_lt B0.out
  go_region_held3 (fun w' => w'.cell? ⟨rb, 0, none⟩ = some (.slice A ln c) ∧ w'.cell? ⟨rb, 1, none⟩ = some (.int .i64 nx) ∧ w'.cell? ⟨wr.heap.size, 4, none⟩ = some (.int .i64 id)) (go_keep)
    ((go_at_call 22; first
      | (refine (HG.out _ (Grow.trans G2.out (Grow.drew _))).mono ?_; rintro e w5 ⟨⟨v5, rfl, o5⟩, g5⟩; have G5 := hid (Grow.trans (Grow.drew _) g5); have t0 := g5.cell q0; have t1 := g5.cell q1; have t2 := g5.cell r1; have OO := hid o5; obtain ⟨A5, c5, hv5, -, -, -⟩ := o5.items; subst hv5; have g5s := G5.out.size; have n0 : rb ≠ w5.heap.size := (by omega); have n1 : wr.heap.size ≠ w5.heap.size := (by omega); have n4 : w5.heap.size ≠ rb := (by omega); have n5 : w5.heap.size ≠ wr.heap.size := (by omega); clear o5 g5)
      | (refine (HG.out _ (Grow.trans G2.out (Grow.trans (Grow.alloc _ _) (Grow.drew _)))).mono ?_; rintro e w5 ⟨⟨v5, rfl, o5⟩, g5⟩; have G5 := hid (Grow.trans (Grow.trans (Grow.alloc _ _) (Grow.drew _)) g5); have t0 := g5.cell (Grow.cell (Grow.trans (Grow.alloc _ _) (Grow.drew _)) q0); have t1 := g5.cell (Grow.cell (Grow.trans (Grow.alloc _ _) (Grow.drew _)) q1); have t2 := g5.cell (Grow.cell (Grow.trans (Grow.alloc _ _) (Grow.drew _)) r1)
         have kk := g5.heap ((Grow.drew _).heap (heap_new W (.cells #[.slice none 0 0, .int .i64 0] 26)))
         rw [hsz] at kk
         have y0 : w5.cell? ⟨wr.heap.size + 1, 0, none⟩ = some (.slice none 0 0) := (by rw [heap_cell kk]; rfl)
         have y1 : w5.cell? ⟨wr.heap.size + 1, 1, none⟩ = some (.int .i64 0) := (by rw [heap_cell kk]; rfl)
         have y2 : w5.frozen? ⟨wr.heap.size + 1, 0, none⟩ = false := heap_frozen kk 0 (by omega)
         have y3 : w5.frozen? ⟨wr.heap.size + 1, 1, none⟩ = false := heap_frozen kk 1 (by omega)
         have KK := hid kk
         clear kk
         have OO := hid o5; obtain ⟨A5, c5, hv5, -, -, -⟩ := o5.items; subst hv5; clear o5 g5)))
  all_goals clear HG
  all_goals first
    | (have k6 := heap_new w5 (.cells #[.slice A5 L2.length c5, .int .i64 nx] 26)
       have G6 := hid (Grow.trans G2.out (Grow.trans G5.out (Grow.alloc w5 (.cells #[.slice A5 L2.length c5, .int .i64 nx] 26))))
       have o6 := hid (OO.out.grow (Grow.alloc w5 (.cells #[.slice A5 L2.length c5, .int .i64 nx] 26)))
       have GW := hid (Grow.trans G5.out (Grow.alloc w5 (.cells #[.slice A5 L2.length c5, .int .i64 nx] 26)))
       have hww : ∃ w6, w6 = w5.alloc (.cells #[.slice A5 L2.length c5, .int .i64 nx] 26) := ⟨_, rfl⟩
       obtain ⟨w6, hw6⟩ := hww
       rw [← hw6] at k6 G6 GW o6 ⊢
       have HXW := hid (show W.heap.size ≤ w5.heap.size from G5.out.size)
       clear hw6
       generalize w5.heap.size = X at *)
    | (have k6 : ((w5.setCell ⟨wr.heap.size + 1, 0, none⟩ (.slice A5 L2.length c5)).setCell ⟨wr.heap.size + 1, 1, none⟩ (.int .i64 nx)).heap[wr.heap.size + 1]? = some (.cells #[.slice A5 L2.length c5, .int .i64 nx] 26 (0, 0)) := heap_set (heap_set KK.out 0 (.slice A5 L2.length c5)) 1 (.int .i64 nx)
       have G6 := hid (show Below wr.heap.size wr ((w5.setCell ⟨wr.heap.size + 1, 0, none⟩ (.slice A5 L2.length c5)).setCell ⟨wr.heap.size + 1, 1, none⟩ (.int .i64 nx)) from Below.setCell (Below.setCell (Grow.trans G2.out G5.out) (by show wr.heap.size ≤ wr.heap.size + 1; omega) _) (by show wr.heap.size ≤ wr.heap.size + 1; omega) _)
       have o6 := hid ((OO.out.setB KK.out (by decide) 0 (.slice A5 L2.length c5)).setB (heap_set KK.out 0 _) (by decide) 1 (.int .i64 nx))
       have GW := hid (show Below W.heap.size W ((w5.setCell ⟨wr.heap.size + 1, 0, none⟩ (.slice A5 L2.length c5)).setCell ⟨wr.heap.size + 1, 1, none⟩ (.int .i64 nx)) from Below.setCell (Below.setCell G5.out (by show W.heap.size ≤ wr.heap.size + 1; omega) _) (by show W.heap.size ≤ wr.heap.size + 1; omega) _)
       have hww : ∃ w6, w6 = (w5.setCell ⟨wr.heap.size + 1, 0, none⟩ (.slice A5 L2.length c5)).setCell ⟨wr.heap.size + 1, 1, none⟩ (.int .i64 nx) := ⟨_, rfl⟩
       obtain ⟨w6, hw6⟩ := hww
       rw [← hw6] at k6 G6 GW o6 ⊢
       have HXW := hid (show W.heap.size ≤ wr.heap.size + 1 by omega)
       clear hw6 y0 y1 y2 y3
       generalize wr.heap.size + 1 = X at *)
  all_goals
    rename_i hHeld
    clear hHeld
    have hg6 : Grow wr w6 := G6.out
    have r6 := hg6.heap HR.out
    have b6 := hg6.size
    have a6 := Grow.heap (show Grow wr w6 from G6.out) HR.out
    have y0 : w6.cell? ⟨X, 0, none⟩ = some (.slice A5 L2.length c5) := by rw [heap_cell k6]; rfl
    have y1 : w6.cell? ⟨X, 1, none⟩ = some (.int .i64 nx) := by rw [heap_cell k6]; rfl
    have u0 : w6.cell? ⟨rb, 0, none⟩ = some (.slice A ln c) := by rw [heap_cell r6]; rfl
    have u1 : w6.cell? ⟨rb, 1, none⟩ = some (.int .i64 nx) := by rw [heap_cell r6]; rfl
    have u2 : w6.frozen? ⟨rb, 0, none⟩ = false := heap_frozen r6 0 (by omega)
    have u3 : w6.frozen? ⟨rb, 1, none⟩ = false := heap_frozen r6 1 (by omega)
    have b7 := Grow.heap (show Grow W w6 from GW.out) B0.out
    have c6 : w6.cell? ⟨wr.heap.size, 4, none⟩ = some (.int .i64 id) := by rw [heap_cell b7]; rfl
    have lb7 := heap_lt b7
    have hm2 : rb ≠ wr.heap.size := by omega
    have hm3 : wr.heap.size ≠ rb := by omega
    have hm4 : X ≠ rb := fun e => by
      have hx := k6
      have : (W.heap.size ≤ X) := HXW.out
      omega
    have hm5 : rb ≠ X := fun e => hm4 e.symm
    have lx := heap_lt k6
    have lr := heap_lt r6
    have r7 := heap_set (heap_set r6 0 (.slice A5 L2.length c5)) 1 (.int .i64 nx)
    have HQ := hid (HX.out _ (((HIX.out.grow hg6).setB r6 (by simp [otherI]) 0 (.slice A5 L2.length c5)).setB (heap_set r6 0 (.slice A5 L2.length c5)) (by simp [otherI]) 1 (.int .i64 nx)))
    have HO7 := hid ((o6.out.setB r6 (by decide) 0 (.slice A5 L2.length c5)).setB (heap_set r6 0 (.slice A5 L2.length c5)) (by decide) 1 (.int .i64 nx))
    have HT7 := hid (Turn.setOld (HT.out.trans (Turn.of_grow hg6 HT.out.below.size)) r6 hrb hrb (.slice A5 L2.length c5) (.int .i64 nx))
    have R7 := hid r7
    clear r6 r7 a6 k6 t0 t1 t2 q0 q1 r1
    go_wp2_with fail
    refine HQ.out.mono ?_
    rintro e w7 ⟨rfl, ⟨T7, mb7, hix7⟩, tt7⟩
    have HF := hid (show PlayAt w0 w7 p rb (L2, nx) from ⟨.slice A5 L2.length c5, N, T7, mb7, hix7, HN.out, HO7.out.turn tt7, tt7.keep _ _ R7.out (by simp [otherI]), HT7.out.trans tt7, hrb⟩)
    have ebb : (ok == ok) = true := by simp
    clear tt7 hix7
    go_wp2_with fail
    go_ret
    exact ⟨rfl, HF.out⟩

/-- What a Get tells. -/
def gotV (L : List It) (k : Int) : (Int × Int × ByteArray) × Bool := match look L k with
  | some z => ((z.f, z.t, z.v), true)
  | none => ((0, 0, ByteArray.empty), false)
theorem GetAny_c {w : World} {B p : Nat} {L : List It} {nx : Int} {N : Nat} {T : Tr} {mb : Nat} (k : Int) (hk : -9223372036854775808 ≤ k ∧ k ≤ 9223372036854775807) (h : IxAt w B p L nx N T mb) :
    Calls Try.prog 24 #[.pointer (some ⟨p, 0, none⟩), .int .i64 k] w fun e w' => e = .returned (.tuple #[.agg #[.int .i64 (gotV L k).1.1, .int .i64 (gotV L k).1.2.1, .string (gotV L k).1.2.2], .bool (gotV L k).2]) ∧ Grow w w' := by
  unfold gotV
  cases hl : look L k with
  | none => exact GetNo_c k hk h hl
  | some z => exact GetYes_c k hk z h hl
theorem RGetAny2_c (last : Int) (v : Value) (l : List It) (k : Int) (w : World) (hv : RIts w v l) :
    Calls Try.prog 21 #[.agg #[v, .int .i64 last], .int .i64 k] w fun e w' => (∃ i : Int, e = .returned (.tuple #[.agg #[.int .i64 i, .int .i64 (gotV l k).1.1, .int .i64 (gotV l k).1.2.1, .string (gotV l k).1.2.2], .bool (gotV l k).2])) ∧ Grow w w' := by
  unfold gotV
  cases hl : look l k with
  | none =>
    refine (RGetNo_c last v l k w hv hl).mono ?_
    rintro e w' ⟨rfl, g⟩
    exact ⟨⟨0, rfl⟩, g⟩
  | some z =>
    refine (RGetYes_c last v l k z w hv hl).mono ?_
    rintro e w' ⟨rfl, g⟩
    exact ⟨⟨z.id, rfl⟩, g⟩
set_option maxRecDepth 100000 in
set_option maxHeartbeats 8000000 in
theorem doesX_c (w0 wr : World) (p rb : Nat) (L : List It) (nx kind f t id : Int) (s : ByteArray) (hk0 : ¬ kind = 0) (hk1 : ¬ kind = 1) (hP : PlayAt w0 wr p rb (L, nx)) (hid0 : -9223372036854775808 ≤ id ∧ id ≤ 9223372036854775807) :
    Calls Try.prog 27 #[.pointer (some ⟨p, 0, none⟩), .pointer (some ⟨rb, 0, none⟩), .agg #[.int .i64 kind, .int .i64 f, .int .i64 t, .string s, .int .i64 id]] wr fun e w' => e = .returned (.bool true) ∧ PlayAt w0 w' p rb (playF (L, nx) ⟨kind, f, t, s, id⟩) := by
  have hres : playF (L, nx) ⟨kind, f, t, s, id⟩ = (L, nx) := by unfold playF; rw [if_neg hk0, if_neg hk1]
  rw [hres]
  clear hres
  have HP := hid (show ∀ w', Grow wr w' → PlayAt w0 w' p rb (L, nx) from fun w' g => by
    obtain ⟨v', N, T, mb, hix, hN, hro, hr, hT, hrb⟩ := hP
    exact ⟨v', N, T, mb, hix.grow g, hN, hro.grow g, g.heap hr, hT.trans (Turn.of_grow g hT.below.size), hrb⟩)
  obtain ⟨v', N, T, mb, hix, hN, hro, hr, hT, hrb⟩ := hP
  dsimp only at hix hN hro hr
  have HG := hid (fun (w' : World) (g : Grow wr w') => RGetAny2_c nx _ L id w' (hro.items.grow g))
  have HX := hid (fun (w' : World) (g : Grow wr w') => GetAny_c id hid0 (hix.grow g))
  obtain ⟨A, c, hv, -, -, -⟩ := hro.items
  subst hv
  generalize gotV L id = V at *
  obtain ⟨⟨z1, z2, z3⟩, ok⟩ := V
  dsimp only at HG HX
  generalize L.length = ln at *
  have hlr := heap_lt hr
  have p0 : wr.cell? ⟨rb, 0, none⟩ = some (.slice A ln c) := by rw [heap_cell hr]; rfl
  have p1 : wr.cell? ⟨rb, 1, none⟩ = some (.int .i64 nx) := by rw [heap_cell hr]; rfl
  have e0 : (kind == 0) = false := by simpa using hk0
  have e1 : (kind == 1) = false := by simpa using hk1
  clear hro hr hix hN hT hid0 hk0 hk1
  have b0 := heap_new wr (.cells #[.int .i64 kind, .int .i64 f, .int .i64 t, .string s, .int .i64 id] 63)
  have g2 := Grow.alloc wr (.cells #[.int .i64 kind, .int .i64 f, .int .i64 t, .string s, .int .i64 id] 63)
  have hsz : (wr.alloc (.cells #[.int .i64 kind, .int .i64 f, .int .i64 t, .string s, .int .i64 id] 63)).heap.size = wr.heap.size + 1 := by simp
  go_enter Try.func27, Try.ntmps27
  go_wp2_with fail
  refine (HX.out _ g2).mono ?_
  rintro e w3 ⟨rfl, g3⟩
  replace b0 := g3.heap b0
  replace p0 := g3.cell (g2.cell p0)
  replace p1 := g3.cell (g2.cell p1)
  have G3 := hid (Grow.trans g2 g3)
  have hs3 := g3.size
  generalize wr.alloc (.cells #[.int .i64 kind, .int .i64 f, .int .i64 t, .string s, .int .i64 id] 63) = W at *
  clear g2 g3
  have r1 : w3.cell? ⟨wr.heap.size, 4, none⟩ = some (.int .i64 id) := by rw [heap_cell b0]; rfl
  have c9 := heap_new w3 (.cells #[.int .i64 z1, .int .i64 z2, .string z3] 46)
  have g4 := Grow.alloc w3 (.cells #[.int .i64 z1, .int .i64 z2, .string z3] 46)
  have hsz4 : (w3.alloc (.cells #[.int .i64 z1, .int .i64 z2, .string z3] 46)).heap.size = w3.heap.size + 1 := by simp
  go_wp2_with fail
  generalize w3.alloc (.cells #[.int .i64 z1, .int .i64 z2, .string z3] 46) = W4 at *
  have q0 := g4.cell p0
  have q1 := g4.cell p1
  replace r1 := g4.cell r1
  have hl4 : rb < W4.heap.size := by omega
  have C9 := hid c9
  have G4 := hid (Grow.trans G3.out g4)
  clear p0 p1 b0 c9 g4 HX
  generalize w3.heap.size = ib at *
  have n2 : rb ≠ ib + 1 := by omega
  have n3 : ib + 1 ≠ rb := by omega
  have n6 : wr.heap.size ≠ ib + 1 := by omega
  have n7 : ib + 1 ≠ wr.heap.size := by omega
  have hlD : wr.heap.size < W4.heap.size := by omega
  go_region_held3 (fun w' => w'.cell? ⟨rb, 0, none⟩ = some (.slice A ln c) ∧ w'.cell? ⟨rb, 1, none⟩ = some (.int .i64 nx) ∧ w'.cell? ⟨wr.heap.size, 4, none⟩ = some (.int .i64 id)) (go_keep)
    ((go_at_call 21; first
      | (refine (HG.out _ (Grow.trans G4.out (Grow.drew _))).mono ?_; rintro e w5 ⟨⟨i5, rfl⟩, g5⟩; have G5 := hid (Grow.trans (Grow.drew _) g5); have t0 := g5.cell q0; have t1 := g5.cell q1; have t2 := g5.cell r1; have g5s := G5.out.size; have n0 : rb ≠ w5.heap.size := (by omega); have n1 : wr.heap.size ≠ w5.heap.size := (by omega); have n4 : w5.heap.size ≠ rb := (by omega); have n5 : w5.heap.size ≠ wr.heap.size := (by omega); clear g5)
      | (refine (HG.out _ (Grow.trans G4.out (Grow.trans (Grow.alloc _ _) (Grow.drew _)))).mono ?_; rintro e w5 ⟨⟨i5, rfl⟩, g5⟩; have G5 := hid (Grow.trans (Grow.trans (Grow.alloc _ _) (Grow.drew _)) g5); have t0 := g5.cell (Grow.cell (Grow.trans (Grow.alloc _ _) (Grow.drew _)) q0); have t1 := g5.cell (Grow.cell (Grow.trans (Grow.alloc _ _) (Grow.drew _)) q1); have t2 := g5.cell (Grow.cell (Grow.trans (Grow.alloc _ _) (Grow.drew _)) r1)
         have kk := g5.heap ((Grow.drew _).heap (heap_new W4 (.cells #[.int .i64 0, .int .i64 0, .int .i64 0, .string ByteArray.empty] 50)))
         rw [hsz4] at kk
         have y0 : w5.cell? ⟨ib + 1, 0, none⟩ = some (.int .i64 0) := (by rw [heap_cell kk]; rfl)
         have y1 : w5.cell? ⟨ib + 1, 1, none⟩ = some (.int .i64 0) := (by rw [heap_cell kk]; rfl)
         have y2 : w5.cell? ⟨ib + 1, 2, none⟩ = some (.int .i64 0) := (by rw [heap_cell kk]; rfl)
         have y3 : w5.cell? ⟨ib + 1, 3, none⟩ = some (.string ByteArray.empty) := (by rw [heap_cell kk]; rfl)
         have y4 : w5.frozen? ⟨ib + 1, 0, none⟩ = false := heap_frozen kk 0 (by omega)
         have y5 : w5.frozen? ⟨ib + 1, 1, none⟩ = false := heap_frozen kk 1 (by omega)
         have y6 : w5.frozen? ⟨ib + 1, 2, none⟩ = false := heap_frozen kk 2 (by omega)
         have y7 : w5.frozen? ⟨ib + 1, 3, none⟩ = false := heap_frozen kk 3 (by omega)
         have KK := hid kk
         clear kk g5)))
  all_goals clear HG
  all_goals first
    | (have k6 := heap_new w5 (.cells #[.int .i64 i5, .int .i64 z1, .int .i64 z2, .string z3] 50)
       have G6 := hid (Grow.trans G5.out (Grow.alloc w5 (.cells #[.int .i64 i5, .int .i64 z1, .int .i64 z2, .string z3] 50)))
       have hww : ∃ w6, w6 = w5.alloc (.cells #[.int .i64 i5, .int .i64 z1, .int .i64 z2, .string z3] 50) := ⟨_, rfl⟩
       obtain ⟨w6, hw6⟩ := hww
       rw [← hw6] at k6 G6 ⊢
       clear hw6
       generalize w5.heap.size = X at *)
    | (have k6 : ((((w5.setCell ⟨ib + 1, 0, none⟩ (.int .i64 i5)).setCell ⟨ib + 1, 1, none⟩ (.int .i64 z1)).setCell ⟨ib + 1, 2, none⟩ (.int .i64 z2)).setCell ⟨ib + 1, 3, none⟩ (.string z3)).heap[ib + 1]? = some (.cells #[.int .i64 i5, .int .i64 z1, .int .i64 z2, .string z3] 50 (0, 0)) := heap_set (heap_set (heap_set (heap_set KK.out 0 (.int .i64 i5)) 1 (.int .i64 z1)) 2 (.int .i64 z2)) 3 (.string z3)
       have G6 := hid (show Below W4.heap.size W4 ((((w5.setCell ⟨ib + 1, 0, none⟩ (.int .i64 i5)).setCell ⟨ib + 1, 1, none⟩ (.int .i64 z1)).setCell ⟨ib + 1, 2, none⟩ (.int .i64 z2)).setCell ⟨ib + 1, 3, none⟩ (.string z3)) from Below.setCell (Below.setCell (Below.setCell (Below.setCell G5.out (by show W4.heap.size ≤ ib + 1; omega) _) (by show W4.heap.size ≤ ib + 1; omega) _) (by show W4.heap.size ≤ ib + 1; omega) _) (by show W4.heap.size ≤ ib + 1; omega) _)
       have hww : ∃ w6, w6 = (((w5.setCell ⟨ib + 1, 0, none⟩ (.int .i64 i5)).setCell ⟨ib + 1, 1, none⟩ (.int .i64 z1)).setCell ⟨ib + 1, 2, none⟩ (.int .i64 z2)).setCell ⟨ib + 1, 3, none⟩ (.string z3) := ⟨_, rfl⟩
       obtain ⟨w6, hw6⟩ := hww
       rw [← hw6] at k6 G6 ⊢
       clear hw6 y0 y1 y2 y3 y4 y5 y6 y7
       generalize ib + 1 = X at *)
  all_goals
    rename_i hHeld
    clear hHeld
    have x7 := Grow.heap (show Grow W4 w6 from G6.out) C9.out
    have v0 : w6.cell? ⟨ib, 0, none⟩ = some (.int .i64 z1) := by rw [heap_cell x7]; rfl
    have v1 : w6.cell? ⟨ib, 1, none⟩ = some (.int .i64 z2) := by rw [heap_cell x7]; rfl
    have v2 : w6.cell? ⟨ib, 2, none⟩ = some (.string z3) := by rw [heap_cell x7]; rfl
    have u1 : w6.cell? ⟨X, 1, none⟩ = some (.int .i64 z1) := by rw [heap_cell k6]; rfl
    have u2 : w6.cell? ⟨X, 2, none⟩ = some (.int .i64 z2) := by rw [heap_cell k6]; rfl
    have u3 : w6.cell? ⟨X, 3, none⟩ = some (.string z3) := by rw [heap_cell k6]; rfl
    have lx := heap_lt x7
    have lr := heap_lt k6
    have HF := hid (HP.out w6 (Grow.trans G4.out (show Grow W4 w6 from G6.out)))
    clear x7 k6 t0 t1 t2
    have ebb : (ok == ok) = true := by simp
    have eb1 : (z1 == z1) = true := by simp
    have eb2 : (z2 == z2) = true := by simp
    go_wp2_with fail
    go_ret
    exact ⟨rfl, HF.out⟩
end Go.Proofs.Ythmbnffddpnehaa
