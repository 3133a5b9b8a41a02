/- What all that is kept is asked for by. -/
import Derived.Test.YtjccfodadiaokaaCKept
namespace Go.Proofs.Ytjccfodadiaokaa
open Go.RowKit
set_option linter.unusedVariables false
set_option linter.unusedSimpArgs false
theorem run_equalIn_func_nil {P : Program} (w : World) (d : Nat) (t : TypeId) (ps rs : Array TypeId) (vr : Bool) (f : Fn) (bt bs) (h : P.underlying t = some (.func ps rs vr)) :
    (Op.equalIn (d + 1) t (.func f bt bs) .nilFunc).run P w = .ok false w := by
  simp [Op.equalIn, run_underlying h]
/-- A function held against nil. -/
theorem run_eql_func_nil {P : Program} (w : World) (t : TypeId) (ps rs : Array TypeId) (vr : Bool) (f : Fn) (bt bs) (h : P.underlying t = some (.func ps rs vr)) :
    (binOp .eql t (.func f bt bs) .nilFunc).run P w = .ok (.bool false) w := by
  simp only [binOp]
  simp [Op.equal, Op.maxDepth, run_equalIn_func_nil w 9999 t ps rs vr f bt bs h]
set_option maxRecDepth 100000 in
set_option maxHeartbeats 2000000 in
theorem CloneI_c (l : List CItem) (v : Value) (w : World) (base : Nat) (hv : w.ownsRow base 71 3 v l.length (itemCells l)) (hl : l.length ≤ 1000000) :
    Calls Try.prog 49 #[v] w fun e w' => ∃ v', e = .returned v' ∧ w'.ownsRow w.heap.size 71 3 v' l.length (itemCells l) ∧ Grow w w' := by
  have u63 := Try.underlying63
  have hq : ∀ (w : World) (a : Option Addr) (n c n' c' : Nat), (binOp .eql 63 (.slice a n c) (.slice none n' c')).run Try.prog w = .ok (.bool a.isNone) w := fun w a n c n' c' => Lib.run_eql_slice_nil w _ _ a n c n' c' u63
  obtain ⟨i0, hi, hz0, hz1, hz2⟩ := info_parts infoItemM
  rcases hv.2 with ⟨rfl, h0⟩ | ⟨g, c, cur, rfl, hb, hg, hnc, hcm, hcs, htk⟩
  · obtain rfl := List.eq_nil_of_length_eq_zero h0
    clear hv
    go_enter Try.func49, Try.ntmps49
    go_wp2_with fail
    go_ret
    exact ⟨_, rfl, World.ownsRow_nil _ _ _ _, Grow.refl _⟩
  · have HC := hid (show ∀ j u, (itemCells l)[j]? = some u → w.cell? ⟨g, j, none⟩ = some u from fun j u hj => by
      have hjl : j < l.length * 3 := by
        have := (List.getElem?_eq_some_iff.1 hj).1
        rwa [itemCells_length] at this
      exact (hv.cellAt j hjl).trans hj)
    clear hv hg hcs htk
    go_enter Try.func49, Try.ntmps49
    go_wp2_with (at_builtin; refine wpList_append_own _ rfl _ _ 63 rfl w.heap.size 71 i0 _ 3 32 u63 hi hz0 hz1 hz2 rfl (by decide) _ 0 _ rfl (World.ownsRow_made w #[] 0 (Nat.le_refl _) (Nat.zero_le _) rfl) ⟨g, 0, none⟩ l.length c (itemCells l) rfl (itemCells_length l) ?qc2 (itemCells_one l) ?qc4 ?qc5 ?qc6 ?_)
    case qc2 =>
      intro j u hj
      rw [Addr.add_lit, Nat.zero_add]
      exact Lib.cell?_alloc_some _ (HC.out j u hj)
    case qc4 => unfold maxLen; omega
    case qc5 => omega
    case qc6 => simp
    intro v' w1 hown hgrow hnil
    go_wp2_with fail
    go_ret
    exact ⟨v', rfl, by simpa using hown, ((Below.refl _ w).alloc (Nat.le_refl _) _).grown hgrow (by simp) (by intro k hk; simp [Value.ownBlock] at hk; omega)⟩
theorem take_bare (l : List CItem) (j : Nat) (hj : j < l.length) : (l.map CItem.bare).take (j + 1) = (l.map CItem.bare).take j ++ [⟨(l[j]).key, (l[j]).val, 0⟩] := by
  rw [List.take_succ_eq_append_getElem (by simpa using hj)]
  simp [CItem.bare]
set_option maxRecDepth 100000 in
theorem All1Nil_c (y : Value) (xb : Nat) (w : World) (hx : w.heap[xb]? = some (.cells #[.pointer none] 24 (0, 0))) :
    Calls Try.prog 48 #[y, .pointer (some ⟨xb, 0, none⟩)] w fun e w' => (∃ u, e = .returned u) ∧ w = w' := by
  have c0 : w.cell? ⟨xb, 0, none⟩ = some (.pointer none) := by rw [heap_cell hx]; rfl
  have hlt := heap_lt hx
  clear hx
  go_enter Try.func48, Try.ntmps48
  go_wp2_with fail
  first | go_end0 | ((try simp only [Exit.inBlock, Exit.then]); refine bodyPost_ret (results_none rfl _ _ _) rfl ?_)
  exact ⟨⟨_, rfl⟩, rfl⟩
set_option maxRecDepth 100000 in
set_option maxHeartbeats 4000000 in
theorem All1_c (p : Nat) (cmost : Int) (v : Value) (l : List CItem) (xb lb mb : Nat) (m : Int) (w : World) (hc : CacheAt w p cmost v l) (hl : l.length ≤ 1000000) (hx : w.heap[xb]? = some (.cells #[.pointer (some ⟨p, 0, none⟩)] 24 (0, 0)))
    (hlb : w.heap[lb]? = some (.cells #[.slice none 0 0] 50 (0, 0))) (hmb : w.heap[mb]? = some (.cells #[.int .i64 m] 3 (0, 0))) (hne : mb ≠ lb) (h1 : 1 ≤ m) :
    Calls Try.prog 48 #[.func (.func 34) #[] #[.pointer (some ⟨lb, 0, none⟩), .pointer (some ⟨mb, 0, none⟩)], .pointer (some ⟨xb, 0, none⟩)] w fun e w' => (∃ u, e = .returned u) ∧
      ∃ lv, w'.heap[lb]? = some (.cells #[lv] 50 (0, 0)) ∧ w'.ownsRow w.heap.size 53 3 lv ((l.map CItem.bare).take m.toNat).length (itemCells ((l.map CItem.bare).take m.toNat)) ∧ Side lb w.heap.size w w' := by
  have HCL := hid (CloneI_c l v w (p + 1) hc.2 hl)
  obtain ⟨A, c, rfl⟩ := own_form hc.2
  have c1 : w.cell? ⟨p, 1, none⟩ = some (.slice A l.length c) := by rw [heap_cell hc.1]; rfl
  have hpl := heap_lt hc.1
  have x0 : w.cell? ⟨xb, 0, none⟩ = some (.pointer (some ⟨p, 0, none⟩)) := by rw [heap_cell hx]; rfl
  have hxl := heap_lt hx
  have hll := heap_lt hlb
  have hml := heap_lt hmb
  have HLB := hid hlb
  have HMB := hid hmb
  clear hc hx hlb hmb
  go_enter Try.func48, Try.ntmps48
  go_wp2_with fail
  refine HCL.out.mono ?_
  rintro e w1 ⟨cv, rfl, ho1, g1⟩
  have HAT := hid (show ∀ j (hj : j < l.length), ∃ g cc, cv = .slice (some ⟨g, 0, none⟩) l.length cc ∧ g ≠ lb ∧ g < w1.heap.size ∧ ItemAt w1 g (j * 3) l[j] from fun j hj => by
    rcases ho1.2 with ⟨-, h0⟩ | ⟨g, cc, cur, rfl, hb, hg, -⟩
    · omega
    · have e0 := itemCells_at l j 0 hj (by omega)
      rw [Nat.add_zero] at e0
      exact ⟨g, cc, rfl, by omega, heap_lt hg, (ho1.cellAt (j * 3) (by omega)).trans e0, (ho1.cellAt (j * 3 + 1) (by omega)).trans (itemCells_at l j 1 hj (by omega)), (ho1.cellAt (j * 3 + 2) (by omega)).trans (itemCells_at l j 2 hj (by omega))⟩)
  obtain ⟨A1, cc1, rfl⟩ : ∃ A c, cv = .slice A l.length c := by
    rcases ho1.2 with ⟨h, h0⟩ | ⟨g, cap, cur, h, _⟩
    · exact ⟨none, 0, by rw [h, h0]⟩
    · exact ⟨_, cap, h⟩
  have HL1 := hid (g1.heap HLB.out)
  have HM1 := hid (g1.heap HMB.out)
  have G1 := hid g1
  have hs1 := g1.size
  have HT := hid (fun j hj => take_bare l j hj)
  have hlen : ∀ j, ((l.map CItem.bare).take j).length = min j l.length := fun j => by rw [List.length_take, List.length_map]
  have HLEN := hid hlen
  clear ho1 g1 HCL c1 x0 hlen
  obtain ⟨n, hN⟩ : ∃ n, n = l.length := ⟨_, rfl⟩
  rw [← hN]
  rw [← hN] at hl
  have HN := hid hN
  clear hN
  go_wp2_with fail
  go_loopw [13] (fun i wr => ∃ j : Nat, j ≤ n ∧ (j : Int) < m ∧ i = .int .i64 (j : Int) ∧ Side lb w1.heap.size w1 wr ∧ Hid (∃ lv, wr.heap[lb]? = some (.cells #[lv] 50 (0, 0)) ∧ wr.ownsRow w1.heap.size 53 3 lv j (itemCells ((l.map CItem.bare).take j)))) (fun i _ => n - (intOf i).toNat)
  case atStart => exact ⟨0, by omega, by omega, rfl, Side.refl _ _ _, hid ⟨_, HL1.out, World.ownsRow_nil _ _ _ _⟩⟩
  case round =>
    obtain ⟨j, hj, hjm, rfl, hsd, HR⟩ := hrel
    by_cases hlt : j < n
    · obtain ⟨g, cc, hge, hgl, hgs, ha⟩ := HAT.out j (by have := HN.out; omega)
      rw [← HN.out] at hge
      cases hge
      obtain ⟨lv, hlv, hov⟩ := HR.out
      have ht := HT.out j (by have := HN.out; omega)
      obtain ⟨x, hx⟩ : ∃ x, l[j]'(by have := HN.out; omega) = x := ⟨_, rfl⟩
      rw [hx] at ha ht
      clear hx
      obtain ⟨key, val, pins⟩ := x
      unfold ItemAt at ha
      dsimp only at ha ht
      obtain ⟨a0, a1, a2⟩ := ha
      have hgb := hsd.block g hgs hgl
      have b0 := (World.cell?_of_block (a := ⟨g, j * 3, none⟩) hgb).trans a0
      have b1 := (World.cell?_of_block (a := ⟨g, j * 3 + 1, none⟩) hgb).trans a1
      have b2 := (World.cell?_of_block (a := ⟨g, j * 3 + 2, none⟩) hgb).trans a2
      have hmw : wr.heap[mb]? = some (.cells #[.int .i64 m] 3 (0, 0)) := (hsd.block mb (by omega) hne).trans HM1.out
      have hal : ((l.map CItem.bare).take j).length = j := by rw [HLEN.out, ← HN.out]; omega
      have GA := Grow.alloc wr (.cells #[.int .i64 key, .string val, .int .i64 pins] 71)
      have hgrow : (wr.alloc (.cells #[.int .i64 key, .string val, .int .i64 pins] 71)).ownsRow w1.heap.size 53 3 lv j (itemCells ((l.map CItem.bare).take j)) := by
        refine ⟨hov.1, ?_⟩
        rcases hov.2 with h | ⟨gg, cap, cur, h, h2, hg, h4⟩
        · exact .inl h
        · exact .inr ⟨gg, cap, cur, h, h2, GA.heap hg, h4⟩
      have HK := hid (kept1_c key val lb mb w1.heap.size lv ((l.map CItem.bare).take j) m (wr.alloc (.cells #[.int .i64 key, .string val, .int .i64 pins] 71)) (GA.heap hlv) (GA.heap hmw) (by rw [hal]; exact hgrow) (by rw [hal]; omega) (by omega) (by omega) hne (Nat.le_trans hsd.size GA.size))
      rw [hal, ← ht] at HK
      have HSD := hid (hsd.trans (Side.of_below ((Below.refl w1.heap.size wr).alloc hsd.size (.cells #[.int .i64 key, .string val, .int .i64 pins] 71))))
      have hsz := hsd.size
      clear a0 a1 a2 hgb hmw hal GA hgrow hlv hov ht hsd HR
      have hj0 : (0 : Int) ≤ (j : Int) := by omega
      have hj1 : (j : Int) < (n : Int) := by omega
      go_wp2_with fail
      refine HK.out.mono ?_
      rintro e w3 ⟨rfl, lv3, hlv3, ho3, hs3⟩
      have HR3 := hid (show ∃ lv, w3.heap[lb]? = some (.cells #[lv] 50 (0, 0)) ∧ w3.ownsRow w1.heap.size 53 3 lv (j + 1) (itemCells ((l.map CItem.bare).take (j + 1))) from ⟨lv3, hlv3, ho3⟩)
      have hsd3 := HSD.out.trans hs3
      clear hlv3 ho3 hs3
      by_cases hm2 : (j : Int) + 1 < m
      · rw [decide_eq_true hm2]
        go_wp2_with fail
        go_roundw
        case rel => exact ⟨j + 1, by omega, by omega, by go_num, hsd3, HR3⟩
        case measure => (simp [intOf]; try omega)
      · rw [decide_eq_false hm2]
        go_wp2_with fail
        first | go_end0 | ((try simp only [Exit.inBlock, Exit.then]); refine bodyPost_ret (results_none rfl _ _ _) rfl ?_)
        obtain ⟨lv, h5, h6⟩ := HR3.out
        have em : m.toNat = j + 1 := by omega
        rw [em]
        have hal : ((l.map CItem.bare).take (j + 1)).length = j + 1 := by rw [HLEN.out, ← HN.out]; omega
        refine ⟨⟨_, rfl⟩, lv, h5, ?_, ?_⟩
        · rw [hal]
          refine ⟨h6.1, ?_⟩
          rcases h6.2 with h | ⟨gg, cap, cur, h, h2, hg, h4⟩
          · exact .inl h
          · exact .inr ⟨gg, cap, cur, h, by omega, hg, h4⟩
        · exact (Side.of_below (Grow.below G1.out (Nat.le_refl _))).trans ⟨hsd3.os, hsd3.tape, hsd3.output, hsd3.size, fun k hk hkl => hsd3.block k (by omega) hkl⟩
    · obtain rfl : j = n := by omega
      obtain ⟨lv, h5, h6⟩ := HR.out
      have HH := hid (And.intro h5 h6)
      clear h5 h6
      have hsd3 := hsd
      go_wp2_with fail
      first | go_end0 | ((try simp only [Exit.inBlock, Exit.then]); refine bodyPost_ret (results_none rfl _ _ _) rfl ?_)
      obtain ⟨h5, h6⟩ := HH.out
      have e1 : (l.map CItem.bare).take j = l.map CItem.bare := List.take_of_length_le (by rw [List.length_map, ← HN.out]; omega)
      have e2 : (l.map CItem.bare).take m.toNat = l.map CItem.bare := List.take_of_length_le (by rw [List.length_map, ← HN.out]; omega)
      rw [e1] at h6
      rw [e2]
      refine ⟨⟨_, rfl⟩, lv, h5, ?_, ?_⟩
      · rw [List.length_map, ← HN.out]
        refine ⟨h6.1, ?_⟩
        rcases h6.2 with h | ⟨gg, cap, cur, h, h2, hg, h4⟩
        · exact .inl h
        · exact .inr ⟨gg, cap, cur, h, by omega, hg, h4⟩
      · exact (Side.of_below (Grow.below G1.out (Nat.le_refl _))).trans ⟨hsd3.os, hsd3.tape, hsd3.output, hsd3.size, fun k hk hkl => hsd3.block k (by omega) hkl⟩
set_option maxRecDepth 100000 in
theorem All_c (q : Option Addr) (w : World) : Calls Try.prog 33 #[.pointer q] w fun e w' => e = .returned (.func (.func 48) #[] #[.pointer (some ⟨w.heap.size, 0, none⟩)]) ∧ w' = w.alloc (.cells #[.pointer q] 24) := by
  go_enter Try.func33, Try.ntmps33
  go_wp2_with fail
  go_ret
  exact ⟨rfl, rfl⟩
set_option maxRecDepth 100000 in
theorem keptNone_c (q : Option Addr) (m : Int) (w : World) (h1 : m ≤ 0) :
    Calls Try.prog 19 #[.pointer q, .int .i64 m] w fun e w' => e = .returned (.slice none 0 0) ∧ Grow w w' := by
  go_enter Try.func19, Try.ntmps19
  go_wp2_with fail
  go_ret
  exact ⟨rfl, Grow.trans (Grow.alloc _ _) (Grow.alloc _ _)⟩
set_option maxRecDepth 100000 in
set_option maxHeartbeats 4000000 in
theorem kept_c (p : Nat) (cmost : Int) (v : Value) (l : List CItem) (m : Int) (w : World) (hc : CacheAt w p cmost v l) (hl : l.length ≤ 1000000) (h1 : 1 ≤ m) :
    Calls Try.prog 19 #[.pointer (some ⟨p, 0, none⟩), .int .i64 m] w fun e w' => ∃ lv, e = .returned lv ∧ w'.ownsRow w.heap.size 53 3 lv ((l.map CItem.bare).take m.toNat).length (itemCells ((l.map CItem.bare).take m.toNat)) ∧ Grow w w' := by
  have HA := hid (fun (w' : World) (g : Grow w w') xb lb mb hx hlb hmb hne => All1_c p cmost v l xb lb mb m w' (hc.grow g) hl hx hlb hmb hne h1)
  clear hc
  have hm0 : ¬ m ≤ 0 := by omega
  generalize (l.map CItem.bare).take m.toNat = L at *
  have hq : ∀ (w : World) (f : Fn) bt bs, (binOp .eql 83 (.func f bt bs) .nilFunc).run Try.prog w = .ok (.bool false) w := fun w f bt bs => run_eql_func_nil w _ _ _ _ f bt bs Try.underlying83
  have HALL := hid (fun w => All_c (some ⟨p, 0, none⟩) w)
  go_enter Try.func19, Try.ntmps19
  go_wp2_with fail
  refine (HALL.out _).mono ?_
  rintro e w3 ⟨rfl, hw3⟩
  have hb0 : ((w.alloc (.cells #[.int .i64 m] 3)).alloc (.cells #[.slice none 0 0] 50)).heap[w.heap.size]? = some (.cells #[.int .i64 m] 3 (0, 0)) := heap_alloc_keep (heap_new w _) _
  have hb1 : ((w.alloc (.cells #[.int .i64 m] 3)).alloc (.cells #[.slice none 0 0] 50)).heap[w.heap.size + 1]? = some (.cells #[.slice none 0 0] 50 (0, 0)) := heap_newAt _ _ (by simp)
  have hsz : ((w.alloc (.cells #[.int .i64 m] 3)).alloc (.cells #[.slice none 0 0] 50)).heap.size = w.heap.size + 1 + 1 := by simp
  have hg2 := Grow.trans (Grow.alloc w (.cells #[.int .i64 m] 3)) (Grow.alloc _ (.cells #[.slice none 0 0] 50))
  generalize (w.alloc (.cells #[.int .i64 m] 3)).alloc (.cells #[.slice none 0 0] 50) = w2 at *
  have gA := Grow.alloc w2 (.cells #[.pointer (some ⟨p, 0, none⟩)] 24)
  have hb2 : (w2.alloc (.cells #[.pointer (some ⟨p, 0, none⟩)] 24)).heap[w.heap.size + 1 + 1]? = some (.cells #[.pointer (some ⟨p, 0, none⟩)] 24 (0, 0)) := heap_newAt _ _ hsz.symm
  have G3 := hid (show Grow w w3 from by rw [hw3]; exact Grow.trans hg2 gA)
  have H0 := hid (show w3.heap[w.heap.size]? = some (.cells #[.int .i64 m] 3 (0, 0)) from by rw [hw3]; exact gA.heap hb0)
  have H1 := hid (show w3.heap[w.heap.size + 1]? = some (.cells #[.slice none 0 0] 50 (0, 0)) from by rw [hw3]; exact gA.heap hb1)
  have H2 := hid (show w3.heap[w.heap.size + 1 + 1]? = some (.cells #[.pointer (some ⟨p, 0, none⟩)] 24 (0, 0)) from by rw [hw3]; exact hb2)
  rw [hsz]
  clear hw3 hb0 hb1 hb2 hsz hg2 gA
  go_wp2_with fail
  refine (HA.out w3 G3.out _ _ _ H2.out H1.out H0.out (by omega)).mono ?_
  rintro e w4 ⟨⟨u, rfl⟩, lv, hlv, ho, hs⟩
  obtain ⟨A, c, rfl⟩ := own_form ho
  have c0 := (heap_cell hlv 0).trans (show _ = some _ from rfl)
  have hlt := heap_lt hlv
  have HO := hid (show w4.ownsRow w.heap.size 53 3 (.slice A L.length c) L.length (itemCells L) from by
    refine ⟨ho.1, ?_⟩
    rcases ho.2 with h | ⟨gg, cap, cur, h, h2, hg, h4⟩
    · exact .inl h
    · exact .inr ⟨gg, cap, cur, h, Nat.le_trans G3.out.size h2, hg, h4⟩)
  have HG := hid (show Grow w w4 from Below.trans G3.out (hs.below G3.out.size (by omega)))
  clear ho hs hlv
  go_wp2_with fail
  go_ret
  exact ⟨_, rfl, HO.out, HG.out⟩
set_option maxRecDepth 100000 in
set_option maxHeartbeats 4000000 in
theorem keptNil_c (m : Int) (w : World) (h1 : 1 ≤ m) :
    Calls Try.prog 19 #[.pointer none, .int .i64 m] w fun e w' => e = .returned (.slice none 0 0) ∧ Grow w w' := by
  have hm0 : ¬ m ≤ 0 := by omega
  have hq : ∀ (w : World) (f : Fn) bt bs, (binOp .eql 83 (.func f bt bs) .nilFunc).run Try.prog w = .ok (.bool false) w := fun w f bt bs => run_eql_func_nil w _ _ _ _ f bt bs Try.underlying83
  have HALL := hid (fun w => All_c none w)
  go_enter Try.func19, Try.ntmps19
  go_wp2_with fail
  refine (HALL.out _).mono ?_
  rintro e w3 ⟨rfl, hw3⟩
  have hb1 : ((w.alloc (.cells #[.int .i64 m] 3)).alloc (.cells #[.slice none 0 0] 50)).heap[w.heap.size + 1]? = some (.cells #[.slice none 0 0] 50 (0, 0)) := heap_newAt _ _ (by simp)
  have hsz : ((w.alloc (.cells #[.int .i64 m] 3)).alloc (.cells #[.slice none 0 0] 50)).heap.size = w.heap.size + 1 + 1 := by simp
  have hg2 := Grow.trans (Grow.alloc w (.cells #[.int .i64 m] 3)) (Grow.alloc _ (.cells #[.slice none 0 0] 50))
  generalize (w.alloc (.cells #[.int .i64 m] 3)).alloc (.cells #[.slice none 0 0] 50) = w2 at *
  have gA := Grow.alloc w2 (.cells #[.pointer none] 24)
  have hb2 : (w2.alloc (.cells #[.pointer none] 24)).heap[w.heap.size + 1 + 1]? = some (.cells #[.pointer none] 24 (0, 0)) := heap_newAt _ _ hsz.symm
  have G3 := hid (show Grow w w3 from by rw [hw3]; exact Grow.trans hg2 gA)
  have H1 := hid (show w3.heap[w.heap.size + 1]? = some (.cells #[.slice none 0 0] 50 (0, 0)) from by rw [hw3]; exact gA.heap hb1)
  have H2 := hid (show w3.heap[w.heap.size + 1 + 1]? = some (.cells #[.pointer none] 24 (0, 0)) from by rw [hw3]; exact hb2)
  have HA := hid (fun y => All1Nil_c y _ w3 H2.out)
  have c0 := (heap_cell H1.out 0).trans (show _ = some _ from rfl)
  have hlt := heap_lt H1.out
  rw [hsz]
  clear hw3 hb1 hb2 hsz hg2 gA
  go_wp2_with fail
  refine (HA.out _).mono ?_
  rintro e w4 ⟨⟨u, rfl⟩, rfl⟩
  go_wp2_with fail
  go_ret
  exact ⟨rfl, G3.out⟩
end Go.Proofs.Ytjccfodadiaokaa
