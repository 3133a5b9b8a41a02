/- An index of some intervals, and the reference's. -/
import Derived.Test.YthmbnffddpnehaaIRef3
import Derived.Test.YthmbnffddpnehaaIActLift
import Derived.Test.YthmbnffddpnehaaICalls
import Derived.StillTailTactics
import Derived.Deep.RegionHeld3
import Derived.Test.YthmbnffddpnehaaTextTail
namespace Go.Proofs.Ythmbnffddpnehaa
open Go.RowKit
set_option linter.unusedVariables false
set_option linter.unusedSimpArgs false
theorem results_tmp_cellK {P : Program} {fn : Func} {p u : Tmp} {ty : TypeId} (h : fn.results = #[.tmp u, .cell p ty]) (tmps : Array Value) (w : World) (g : Nat) (t : TypeId) (cs : Array Value) (fr : Nat × Nat) (d : TypeDesc)
    (hp : tmps.getD p undef = .pointer (some ⟨g, 0, none⟩)) (hg : w.heap[g]? = some (.cells cs t fr))
    (hu : P.underlying ty = some d) (hd : (match d with | .struct _ | .array _ _ => true | _ => false) = true) (hi : (P.info? ty).map (·.size) = some cs.size) :
    (results fn tmps).run P w = .ok (.tuple #[tmps.getD u undef, .agg cs]) w := by
  have hp' : tmps[p]?.getD undef = .pointer (some ⟨g, 0, none⟩) := by simpa using hp
  simp [results, h, hp', asAddr, Result.andThen, run_loadVar_row w g t ty cs fr d hg hu hd hi]
theorem ROwn.turn {B : Nat} {w w' : World} {v : Value} {L : List It} (h : ROwn w v L) (t : Turn B w w') : ROwn w' v L := by
  obtain ⟨⟨b, h1, h⟩, hl⟩ := h
  refine ⟨⟨b, h1, ?_⟩, hl⟩
  rcases h with h | ⟨g, cap, cur, h, h2, hb, h4⟩
  · exact .inl h
  · exact .inr ⟨g, cap, cur, h, h2, t.keep _ _ hb (by simp [otherI]), h4⟩
theorem ROwn.setB {w : World} {v : Value} {L : List It} (h : ROwn w v L) {b : Nat} {cs : Array Value} {e : TypeId} {fr : Nat × Nat} (hb : w.heap[b]? = some (.cells cs e fr)) (he : e ≠ 50) (o : Nat) (u : Value) : ROwn (w.setCell ⟨b, o, none⟩ u) v L := by
  obtain ⟨⟨b', h1, h⟩, hl⟩ := h
  refine ⟨⟨b', h1, ?_⟩, hl⟩
  rcases h with h | ⟨g, cap, cur, h, h2, hg, h4⟩
  · exact .inl h
  · refine .inr ⟨g, cap, cur, h, h2, heap_keep hg ⟨b, o, none⟩ u (fun e2 => ?_), h4⟩
    dsimp only at e2
    subst e2
    rw [hg] at hb
    injection hb with hb
    injection hb with _ e3 _
    exact he e3.symm
theorem IxAt.setB {w : World} {B p : Nat} {L : List It} {nx : Int} {N : Nat} {T : Tr} {mb : Nat} (h : IxAt w B p L nx N T mb) {b : Nat} {cs : Array Value} {e : TypeId} {fr : Nat × Nat} (hb : w.heap[b]? = some (.cells cs e fr)) (he : otherI (.cells cs e fr)) (o : Nat) (u : Value) : IxAt (w.setCell ⟨b, o, none⟩ u) B p L nx N T mb :=
  h.keep fun k ob hk hn => heap_keep hk ⟨b, o, none⟩ u (fun e2 => by
    dsimp only at e2
    subst e2
    rw [hk] at hb
    injection hb with hb
    exact hn (hb ▸ he))
theorem Turn.setB {B : Nat} {a w : World} (h : Turn B a w) {b : Nat} {cs : Array Value} {e : TypeId} {fr : Nat × Nat} (hb : w.heap[b]? = some (.cells cs e fr)) (hB : B ≤ b) (ha : a.heap.size ≤ b) (o : Nat) (u : Value) : Turn B a (w.setCell ⟨b, o, none⟩ u) :=
  ⟨Below.setCell h.below hB _, fun k ob hk ho => heap_keep (h.keep k ob hk ho) _ _ (by have := heap_lt hk; show k ≠ b; omega)⟩
/-- What is filled in. -/
def fillF (s : List It × Int) (a : ActR) : List It × Int := if a.kind = 0 ∧ ¬ a.t < a.f then (addL ⟨s.2 + 1, a.f, a.t, a.val⟩ s.1, s.2 + 1) else s
def fillS (l : List ActR) : List It × Int := l.foldl fillF ([], 0)
theorem fillS_snoc (l : List ActR) (j : Nat) (hj : j < l.length) : fillS (l.take (j + 1)) = fillF (fillS (l.take j)) l[j] := by
  unfold fillS
  rw [List.take_succ_eq_append_getElem hj, List.foldl_append]
  rfl
theorem fillS_len (l : List ActR) (j : Nat) (hj : j ≤ l.length) : ((fillS (l.take j)).1.length : Int) = (fillS (l.take j)).2 ∧ (fillS (l.take j)).1.length ≤ j := by
  induction j with
  | zero => simp [fillS]
  | succ j ih =>
    obtain ⟨h1, h2⟩ := ih (by omega)
    rw [fillS_snoc l j (by omega)]
    unfold fillF
    split
    · simp only [len_addL]
      push_cast
      omega
    · omega
/-- Both: the index, and the reference's. -/
structure BothI (B : Nat) (w : World) (p : Nat) (v' : Value) (s : List It × Int) : Prop where
  ix : ∃ N T mb, IxAt w B p s.1 s.2 N T mb ∧ (N : Int) ≤ s.2
  own : ROwn w v' s.1
theorem BothI.grow {B : Nat} {w w' : World} {p : Nat} {v' : Value} {s : List It × Int} (h : BothI B w p v' s) (g : Grow w w') : BothI B w' p v' s := by
  obtain ⟨⟨N, T, mb, h1, h2⟩, h3⟩ := h
  exact ⟨⟨N, T, mb, h1.grow g, h2⟩, h3.grow g⟩
set_option maxRecDepth 100000 in
set_option maxHeartbeats 8000000 in
theorem filled_c (v : Value) (l : List ActR) (w : World) (ha : Acts w v l) :
    Calls Try.prog 9 #[v] w fun e w' => ∃ p v', e = .returned (.tuple #[.pointer (some ⟨p, 0, none⟩), .agg #[v', .int .i64 (fillS (l.take 100)).2]]) ∧ BothI w.heap.size w' p v' (fillS (l.take 100)) ∧ Turn w.heap.size w w' := by
  obtain ⟨A, c, rfl, hl, hfit, hca⟩ := ha
  have HX := hid (show ∀ j (hj : j < l.length), ∃ g off, A = some ⟨g, off, none⟩ ∧ ActAt w g (off + j * 5) l[j] ∧ (l[j]).Fit from fun j hj => by
    obtain ⟨g, off, e, h⟩ := hca (by omega)
    exact ⟨g, off, e, h j hj, hfit _ (List.getElem_mem hj)⟩)
  have HST := hid (fun j hj => fillS_snoc l j hj)
  have HLE := hid (fun j hj => fillS_len l j hj)
  have HEND := hid (show ∀ j, (j = l.length ∧ j ≤ 100) ∨ (j = 100 ∧ j ≤ l.length) → fillS (l.take 100) = fillS (l.take j) from fun j h => by
    rcases h with ⟨h1, h2⟩ | ⟨h1, h2⟩
    · rw [List.take_of_length_le (by omega), List.take_of_length_le (by omega)]
    · rw [h1])
  clear hca hfit
  have HN0 := hid (fun (w' : World) (hB : w.heap.size ≤ w'.heap.size) => New_c w' w.heap.size hB)
  obtain ⟨n, hN⟩ : ∃ n, n = l.length := ⟨_, rfl⟩
  rw [← hN] at hl ⊢
  have HN := hid hN
  clear hN
  generalize fillS (l.take 100) = S at *
  have hr3 := heap_new w (.cells #[.slice none 0 0, .int .i64 0] 26)
  have g3 := Grow.alloc w (.cells #[.slice none 0 0, .int .i64 0] 26)
  go_enter Try.func9, Try.ntmps9
  go_wp2_with fail
  generalize w.alloc (.cells #[.slice none 0 0, .int .i64 0] 26) = w1 at *
  refine (HN0.out w1 g3.size).mono ?_
  rintro e w2 ⟨p, mb, rfl, hix, g2⟩
  have hr5 := heap_new w2 (.cells #[.slice none 0 0, .int .i64 0] 26)
  have g5 := Grow.alloc w2 (.cells #[.slice none 0 0, .int .i64 0] 26)
  go_wp2_with fail
  have hsz2 := g2.size
  have hsz3 := heap_lt hr3
  generalize w2.alloc (.cells #[.slice none 0 0, .int .i64 0] 26) = w3 at *
  have HW := hid (Turn.of_grow (B := w.heap.size) (Grow.trans g3 (Grow.trans g2 g5)) (Nat.le_refl _))
  have HR3 := hid (g5.heap (g2.heap hr3))
  have HR5 := hid hr5
  have HB := hid (show BothI w.heap.size w3 p (.slice none 0 0) ([], 0) from ⟨⟨0, .nil, mb, hix.grow g5, by simp⟩, ROwn.nil _⟩)
  generalize w2.heap.size = rb at *
  clear hr3 hr5 g3 g2 g5 hix
  go_loopw [6] (fun q wr => ∃ (j : Nat) (v' : Value) (s : List It × Int), j ≤ n ∧ j ≤ 100 ∧ q = .int .i64 (j : Int) ∧ Hid (fillS (l.take j) = s) ∧ Hid (BothI w.heap.size wr p v' s) ∧ wr.heap[rb]? = some (.cells #[v', .int .i64 s.2] 26 (0, 0)) ∧ wr.heap[w.heap.size]? = some (.cells #[.slice none 0 0, .int .i64 0] 26 (0, 0)) ∧ Hid (Turn w.heap.size w wr)) (fun q _ => 100 - (intOf q).toNat)
  case atStart => exact ⟨0, _, _, by omega, by omega, rfl, hid (by simp [fillS]), HB, HR5.out, HR3.out, HW⟩
  case round =>
    obtain ⟨j, v', s, hj, hj', rfl, HS, HBI, r5, r3, HT⟩ := hrel
    have hlen := HLE.out j (by have := HN.out; omega)
    rw [HS.out] at hlen
    obtain ⟨L, nx⟩ := s
    dsimp only at hlen
    have hj0 : (0 : Int) ≤ (j : Int) := by omega
    obtain ⟨A5, c5, rfl, -, -, -⟩ := HBI.out.own.items
    dsimp only at r5
    have p0 : wr.cell? ⟨rb, 0, none⟩ = some (.slice A5 L.length c5) := by rw [heap_cell r5]; rfl
    have p1 : wr.cell? ⟨rb, 1, none⟩ = some (.int .i64 nx) := by rw [heap_cell r5]; rfl
    have q0 : wr.cell? ⟨w.heap.size, 0, none⟩ = some (.slice none 0 0) := by rw [heap_cell r3]; rfl
    have q1 : wr.cell? ⟨w.heap.size, 1, none⟩ = some (.int .i64 0) := by rw [heap_cell r3]; rfl
    have k0 : wr.frozen? ⟨w.heap.size, 0, none⟩ = false := heap_frozen r3 0 (by omega)
    have k1 : wr.frozen? ⟨w.heap.size, 1, none⟩ = false := heap_frozen r3 1 (by omega)
    have l0 := heap_lt r5
    have l1 := heap_lt r3
    have n1 : rb ≠ w.heap.size := by omega
    have n2 : w.heap.size ≠ rb := by omega
    have R5 := hid r5
    have R3 := hid r3
    clear r5 r3
    by_cases hlt : j < n ∧ j < 100
    · obtain ⟨hlt, hlt2⟩ := hlt
      have hj1 : (j : Int) < (n : Int) := by omega
      have hj1b : (j : Int) < 100 := by omega
      have hj2 : j < l.length := by have := HN.out; omega
      have hst := HST.out j hj2
      rw [HS.out] at hst
      obtain ⟨g, off, rfl, ha, hfit⟩ := HX.out j hj2
      obtain ⟨x, hx⟩ : ∃ x, l[j] = x := ⟨_, rfl⟩
      rw [hx] at ha hst hfit
      clear hx
      obtain ⟨kind, f, t, s, id⟩ := x
      unfold ActAt at ha
      unfold fillF at hst
      unfold ActR.Fit at hfit
      dsimp only at ha hst hfit
      obtain ⟨a0, a1, a2, a3, a4⟩ := ha
      have hgl := World.block_lt_of_cell? w _ a0
      simp only at hgl
      replace a0 := (Below.cell HT.out.below hgl).trans a0
      replace a1 := (Below.cell HT.out.below hgl).trans a1
      replace a2 := (Below.cell HT.out.below hgl).trans a2
      replace a3 := (Below.cell HT.out.below hgl).trans a3
      replace a4 := (Below.cell HT.out.below hgl).trans a4
      by_cases hk : kind = 0
      · subst hk
        obtain ⟨N, T, mb2, hix, hN5⟩ := HBI.out.ix
        have hro := HBI.out.own
        by_cases htf : t < f
        · rw [if_neg (by omega)] at hst
          have HST1 := hid hst
          have HIX := hid hix
          have HADD := hid (fun (w5 : World) (g : Grow wr w5) => (AddBad_c f t s (hix.grow g) htf).mono (R' := fun e w' => e = .returned (.tuple #[.int .i64 0, .int .i64 31]) ∧ w' = w5) (fun e w' h => by unfold AddPost at h; rw [if_pos htf] at h; exact h))
          have HRADD := hid (fun (w' : World) (hh : ROwn w' (.slice A5 L.length c5) L) => RAddBad_c nx _ L f t s w' hh htf)
          have HRO := hid hro
          have HN5 := hid hN5
          clear hst hix hro hfit hlen hN5
          go_wp2_with fail
          go_still_tail 16, (by kernel_rfl)
          go_wp2_with fail
          refine (HADD.out _ (Grow.drew _)).mono ?_
          rintro e w5 ⟨rfl, rfl⟩
          clear HADD
          go_wp2_with fail
          have gB := Grow.drew wr
          replace a1 := gB.cell a1
          replace a2 := gB.cell a2
          replace a3 := gB.cell a3
          replace p0 := gB.cell p0
          replace p1 := gB.cell p1
          have fr0 := heap_frozen (gB.heap R5.out) 0 (by omega)
          have fr1 := heap_frozen (gB.heap R5.out) 1 (by omega)
          have HIX5 := hid (HIX.out.grow gB)
          have HRO5 := hid (HRO.out.grow gB)
          have HT5 := hid (HT.out.trans (Turn.of_grow gB HT.out.below.size))
          have R55 := hid (gB.heap R5.out)
          have R35 := hid (gB.heap R3.out)
          generalize wr.drew = w5 at *
          refine wp_region_text 16 (by kernel_rfl) (by kernel_rfl) ?_
          simp only [List.take_succ_cons, List.take_zero, List.drop_succ_cons, List.drop_zero]
          repeat still_step
          refine wpStill_nil ?_
          change wpList _ _ _ _ _ (World.drew _)
          go_wp2_with fail
          refine (HRADD.out _ (HRO5.out.grow (Grow.drew _))).mono ?_
          rintro e w6 ⟨rfl, g6⟩
          have G6 := hid (Grow.trans (Grow.drew w5) g6)
          have R56 := hid (G6.out.heap R55.out)
          have R36 := hid (G6.out.heap R35.out)
          have t3 : w6.cell? ⟨rb, 0, none⟩ = some (.slice A5 L.length c5) := by rw [heap_cell R56.out]; rfl
          have t4 : w6.cell? ⟨rb, 1, none⟩ = some (.int .i64 nx) := by rw [heap_cell R56.out]; rfl
          have t5 := heap_frozen R56.out 0 (by omega)
          have t6 := heap_frozen R56.out 1 (by omega)
          have hl6 := heap_lt R56.out
          clear g6 a1 a2 a3 p0 p1
          go_wp2_with fail
          change Exit.inBlock 1 _ Exit.normal _ _
          go_wp2_with fail
          have r6 := heap_set (heap_set R56.out 0 (.slice A5 L.length c5)) 1 (.int .i64 nx)
          have HR5' := R56.out
          refine ⟨⟨j + 1, .slice A5 L.length c5, (L, nx), by omega, by omega, by push_cast; rfl, HST1, hid ⟨⟨N, T, mb2, ((HIX5.out.grow G6.out).setB HR5' (by simp [otherI]) 0 _).setB (heap_set HR5' 0 _) (by simp [otherI]) 1 _, HN5.out⟩, ((HRO5.out.grow G6.out).setB HR5' (by decide) 0 _).setB (heap_set HR5' 0 _) (by decide) 1 _⟩, r6, heap_keep (heap_keep R36.out _ _ n2) _ _ n2, hid ((((HT5.out.trans (Turn.of_grow G6.out HT5.out.below.size)).setB HR5' (by omega) (by omega) 0 _)).setB (heap_set HR5' 0 _) (by omega) (by omega) 1 _)⟩, ?_⟩
          simp [intOf]
          omega
        · rw [if_pos (by omega)] at hst
          have HST1 := hid hst
          have hL9 : L.length ≤ 100 := by omega
          have hL9' : (L, nx).1.length ≤ 100 := hL9
          have hnx0 : 0 ≤ nx := by omega
          have hnx1 : nx ≤ 100 := by omega
          have HADD := hid (fun (w5 : World) (g : Grow wr w5) => (AddGood_c f t s (hix.grow g) htf (by omega) (by omega) hnx0 (by omega) hfit.1.1 hfit.2.1.2).mono (R' := fun e w' => e = .returned (.tuple #[.int .i64 (nx + 1), .int .i64 0]) ∧ (∃ T' mb', IxAt w' w.heap.size p (addL ⟨nx + 1, f, t, s⟩ L) (nx + 1) (N + 1) T' mb') ∧ Turn w.heap.size w5 w') (fun e w' h => by unfold AddPost at h; rw [if_neg htf] at h; exact h))
          have HRADD := hid (fun (w' : World) (hh : ROwn w' (.slice A5 L.length c5) L) => RAddGood_c nx _ L f t s w' hh htf hnx0 (by omega) (by omega))
          have HRO := hid hro
          have HN5 := hid hN5
          clear hst hix hro hfit hlen hN5
          generalize addL ⟨nx + 1, f, t, s⟩ L = L2 at *
          go_wp2_with fail
          go_still_tail 16, (by kernel_rfl)
          go_wp2_with fail
          refine (HADD.out _ (Grow.drew _)).mono ?_
          rintro e w5 ⟨rfl, ⟨T', mb', hix5⟩, ht5⟩
          clear HADD
          have htb := ht5.below
          replace a1 := (Below.cell htb (p := ⟨g, off + j * 5 + 1, none⟩) hgl).trans a1
          replace a2 := (Below.cell htb (p := ⟨g, off + j * 5 + 2, none⟩) hgl).trans a2
          replace a3 := (Below.cell htb (p := ⟨g, off + j * 5 + 3, none⟩) hgl).trans a3
          have R55 := hid (ht5.keep _ _ ((Grow.drew wr).heap R5.out) (by simp [otherI]))
          have R35 := hid (ht5.keep _ _ ((Grow.drew wr).heap R3.out) (by simp [otherI]))
          replace p0 : w5.cell? ⟨rb, 0, none⟩ = some (.slice A5 L.length c5) := by rw [heap_cell R55.out]; rfl
          replace p1 : w5.cell? ⟨rb, 1, none⟩ = some (.int .i64 nx) := by rw [heap_cell R55.out]; rfl
          have HIX5 := hid hix5
          have HRO5 := hid ((HRO.out.grow (Grow.drew _)).turn ht5)
          have HT5 := hid ((HT.out.trans (Turn.of_grow (Grow.drew _) HT.out.below.size)).trans ht5)
          have hsz5 := htb.size
          clear htb ht5 hix5 q0 q1 k0 k1
          go_wp2_with fail
          refine wp_region_text 16 (by kernel_rfl) (by kernel_rfl) ?_
          simp only [List.take_succ_cons, List.take_zero, List.drop_succ_cons, List.drop_zero]
          repeat still_step
          refine wpStill_nil ?_
          change wpList _ _ _ _ _ (World.drew _)
          go_wp2_with fail
          refine (HRADD.out _ (HRO5.out.grow (Grow.drew _))).mono ?_
          rintro e w6 ⟨v6, rfl, ro6, g6⟩
          have HRO6 := hid ro6
          obtain ⟨A6, c6, rfl, -, -, -⟩ := ro6.items
          have G6 := hid (Grow.trans (Grow.drew w5) g6)
          have R56 := hid (G6.out.heap R55.out)
          have R36 := hid (G6.out.heap R35.out)
          have t3 : w6.cell? ⟨rb, 0, none⟩ = some (.slice A5 L.length c5) := by rw [heap_cell R56.out]; rfl
          have t4 : w6.cell? ⟨rb, 1, none⟩ = some (.int .i64 nx) := by rw [heap_cell R56.out]; rfl
          have t5 := heap_frozen R56.out 0 (by omega)
          have t6 := heap_frozen R56.out 1 (by omega)
          have hl6 := heap_lt R56.out
          clear g6 a1 a2 a3 p0 p1
          go_wp2_with fail
          change Exit.inBlock 1 _ Exit.normal _ _
          go_wp2_with fail
          have r6 := heap_set (heap_set R56.out 0 (.slice A6 L2.length c6)) 1 (.int .i64 (nx + 1))
          have HR5' := R56.out
          have hn5 := HN5.out
          refine ⟨⟨j + 1, .slice A6 L2.length c6, (L2, nx + 1), by omega, by omega, by push_cast; rfl, HST1, hid ⟨⟨N + 1, T', mb', ((HIX5.out.grow G6.out).setB HR5' (by simp [otherI]) 0 _).setB (heap_set HR5' 0 _) (by simp [otherI]) 1 _, by push_cast; omega⟩, (HRO6.out.setB HR5' (by decide) 0 _).setB (heap_set HR5' 0 _) (by decide) 1 _⟩, r6, heap_keep (heap_keep R36.out _ _ n2) _ _ n2, hid ((((HT5.out.trans (Turn.of_grow G6.out HT5.out.below.size)).setB HR5' (by omega) (by omega) 0 _)).setB (heap_set HR5' 0 _) (by omega) (by omega) 1 _)⟩, ?_⟩
          simp [intOf]
          omega
      · rw [if_neg (by omega)] at hst
        have HST1 := hid hst
        have e0 : (kind == 0) = false := by simpa using hk
        clear hst
        go_wp2_with fail
        refine ⟨⟨j + 1, _, (L, nx), by omega, by omega, by push_cast; rfl, HST1, HBI, R5.out, R3.out, HT⟩, ?_⟩
        simp [intOf]
        omega
    · have hend : (j = n ∧ j ≤ 100) ∨ (j = 100 ∧ j ≤ n) := by omega
      have hss := HEND.out j (by have := HN.out; omega)
      rw [HS.out] at hss
      have HSS := hid hss
      have HB5 := HBI
      clear hss HBI
      rcases hend with ⟨rfl, h1⟩ | ⟨rfl, h1⟩
      · go_wp2_with fail
        go_region_held3 (fun w' => w'.cell? ⟨rb, 0, none⟩ = some (.slice A5 L.length c5) ∧ w'.cell? ⟨rb, 1, none⟩ = some (.int .i64 nx)) (go_keep) (fail)
        go_wp2_with fail
        (try simp only [Exit.inBlock, Exit.then])
        refine bodyPost_ret (v := .tuple #[.pointer (some ⟨p, 0, none⟩), .agg #[.slice A5 L.length c5, .int .i64 nx]]) ?_ rfl ⟨p, .slice A5 L.length c5, by rw [HSS.out], ?_, ?_⟩
        · refine results_tmp_cellK (fn := Try.f9) (p := 3) (u := 2) rfl _ _ w.heap.size 26 _ (0, 0) _ rfl ((Grow.drew _).heap (heap_set (heap_set R3.out 0 _) 1 _)) Try.underlying26 rfl ?_
          kernel_rfl
        · rw [HSS.out]
          obtain ⟨N, T, mb, h1, h2⟩ := HB5.out.ix
          exact ⟨⟨N, T, mb, (((h1.setB R3.out (by simp [otherI]) 0 _).setB (heap_set R3.out 0 _) (by simp [otherI]) 1 _).grow (Grow.drew _)), h2⟩, ((HB5.out.own.setB R3.out (by decide) 0 _).setB (heap_set R3.out 0 _) (by decide) 1 _).grow (Grow.drew _)⟩
        · exact (((HT.out.setB R3.out (Nat.le_refl _) (Nat.le_refl _) 0 _).setB (heap_set R3.out 0 _) (Nat.le_refl _) (Nat.le_refl _) 1 _)).trans (Turn.of_grow (Grow.drew _) (by have := HT.out.below.size; simp; omega))
      · by_cases hjn : 100 < n
        · have hj1 : ((100 : Nat) : Int) < (n : Int) := by omega
          go_wp2_with fail
          go_region_held3 (fun w' => w'.cell? ⟨rb, 0, none⟩ = some (.slice A5 L.length c5) ∧ w'.cell? ⟨rb, 1, none⟩ = some (.int .i64 nx)) (go_keep) (fail)
          go_wp2_with fail
          (try simp only [Exit.inBlock, Exit.then])
          refine bodyPost_ret (v := .tuple #[.pointer (some ⟨p, 0, none⟩), .agg #[.slice A5 L.length c5, .int .i64 nx]]) ?_ rfl ⟨p, .slice A5 L.length c5, by rw [HSS.out], ?_, ?_⟩
          · refine results_tmp_cellK (fn := Try.f9) (p := 3) (u := 2) rfl _ _ w.heap.size 26 _ (0, 0) _ rfl ((Grow.drew _).heap (heap_set (heap_set R3.out 0 _) 1 _)) Try.underlying26 rfl ?_
            kernel_rfl
          · rw [HSS.out]
            obtain ⟨N, T, mb, h1, h2⟩ := HB5.out.ix
            exact ⟨⟨N, T, mb, (((h1.setB R3.out (by simp [otherI]) 0 _).setB (heap_set R3.out 0 _) (by simp [otherI]) 1 _).grow (Grow.drew _)), h2⟩, ((HB5.out.own.setB R3.out (by decide) 0 _).setB (heap_set R3.out 0 _) (by decide) 1 _).grow (Grow.drew _)⟩
          · exact (((HT.out.setB R3.out (Nat.le_refl _) (Nat.le_refl _) 0 _).setB (heap_set R3.out 0 _) (Nat.le_refl _) (Nat.le_refl _) 1 _)).trans (Turn.of_grow (Grow.drew _) (by have := HT.out.below.size; simp; omega))
        · have hj1 : ¬ ((100 : Nat) : Int) < (n : Int) := by omega
          go_wp2_with fail
          go_region_held3 (fun w' => w'.cell? ⟨rb, 0, none⟩ = some (.slice A5 L.length c5) ∧ w'.cell? ⟨rb, 1, none⟩ = some (.int .i64 nx)) (go_keep) (fail)
          go_wp2_with fail
          (try simp only [Exit.inBlock, Exit.then])
          refine bodyPost_ret (v := .tuple #[.pointer (some ⟨p, 0, none⟩), .agg #[.slice A5 L.length c5, .int .i64 nx]]) ?_ rfl ⟨p, .slice A5 L.length c5, by rw [HSS.out], ?_, ?_⟩
          · refine results_tmp_cellK (fn := Try.f9) (p := 3) (u := 2) rfl _ _ w.heap.size 26 _ (0, 0) _ rfl ((Grow.drew _).heap (heap_set (heap_set R3.out 0 _) 1 _)) Try.underlying26 rfl ?_
            kernel_rfl
          · rw [HSS.out]
            obtain ⟨N, T, mb, h1, h2⟩ := HB5.out.ix
            exact ⟨⟨N, T, mb, (((h1.setB R3.out (by simp [otherI]) 0 _).setB (heap_set R3.out 0 _) (by simp [otherI]) 1 _).grow (Grow.drew _)), h2⟩, ((HB5.out.own.setB R3.out (by decide) 0 _).setB (heap_set R3.out 0 _) (by decide) 1 _).grow (Grow.drew _)⟩
          · exact (((HT.out.setB R3.out (Nat.le_refl _) (Nat.le_refl _) 0 _).setB (heap_set R3.out 0 _) (Nat.le_refl _) (Nat.le_refl _) 1 _)).trans (Turn.of_grow (Grow.drew _) (by have := HT.out.below.size; simp; omega))
end Go.Proofs.Ythmbnffddpnehaa
