/- A node is written. -/
import Derived.Test.YteilkcdbdpkbfaaDoorQTextP
import Derived.Test.YteilkcdbdpkbfaaDoorQParse2
import Derived.Lib.AppendIntMem
import Derived.Test.YteilkcdbdpkbfaaDoorTextTail
import Derived.Test.YteilkcdbdpkbfaaDoorRely
namespace Go.Proofs.YteilkcdbdpkbfaaDoor
open Go.RowKit
set_option linter.unusedVariables false
set_option linter.unusedSimpArgs false
attribute [local go_sem ↓ high] setCell_twice
theorem infoStrQ : Info Tryd.prog 9 (.string ⟨#[]⟩) 1 16 := by unfold Info; kernel_rfl
def strB (l : List UInt8) : ByteArray := ⟨l.toArray⟩
theorem strB_data (l : List UInt8) : (strB l).data.toList = l := rfl
theorem strB_size (l : List UInt8) : (strB l).size = l.length := by simp [strB, ByteArray.size]
/-- Join, of a row of the call's own. -/
theorem join_own_c (xs : List ByteArray) (v : Value) (sep : ByteArray) (base : Nat) (w : World) (h : w.ownsRow base 9 1 v xs.length (xs.map Value.string)) (hN : xs.length ≤ 140737488355328) (hlen : (Lib.join (xs.map (·.data.toList)) sep.data.toList).length ≤ 140737488355328) :
    Calls Tryd.prog 29 #[v, .string sep] w fun e w' => e = .returned (.string (strB (Lib.join (xs.map (·.data.toList)) sep.data.toList))) ∧ Grow w w' := by
  have h' := h
  rcases h.2 with ⟨rfl, h0⟩ | ⟨g, cap, cur, rfl, hg, hh, hnc, -, -, -⟩
  · have : xs = [] := List.eq_nil_of_length_eq_zero h0
    subst this
    refine (Tryd.strings_Join_none none 0 sep w).mono ?_
    rintro e w' ⟨rfl, rfl⟩
    exact ⟨by simp [Lib.join_nil, strB], Grow.refl _⟩
  · refine (Tryd.strings_Join g 0 cap xs sep w (fun j x hx => ?_) (heap_lt hh) hN hnc hlen).mono ?_
    · have := World.ownsRow.cells h' (g := g) rfl j (.string x) (by simp [hx])
      simpa [Addr.add_lit] using this
    · rintro e w' ⟨rfl, hw⟩
      exact ⟨rfl, hw⟩
theorem own_growQ {w w' : World} {base : Nat} {e : TypeId} {size : Nat} {v : Value} {n : Nat} {xs : List Value} (h : w.ownsRow base e size v n xs) (hg : Grow w w') : w'.ownsRow base e size v n xs :=
  h.kept (row := none) ⟨hg.os, hg.tape, hg.output, hg.size, fun k hk _ => hg.block k hk⟩ (by cases v.ownBlock <;> simp)
theorem tight_c (k : Int) (p : Option Addr) (n c : Nat) (f s : ByteArray) (x : Int) (w : World) : Calls Tryd.prog 28 #[.agg #[.int .i64 k, .slice p n c, .string f, .string s, .int .i64 x]] w fun e w' => e = .returned (.int .i64 (tightI k)) ∧ Grow w w' := by
  unfold tightI
  by_cases h1 : k = 1
  · subst h1
    go_enter Tryd.func28, Tryd.ntmps28
    go_wp2_with fail
    go_ret
    exact ⟨rfl, Grow.alloc _ _⟩
  · by_cases h2 : k = 2
    · subst h2
      go_enter Tryd.func28, Tryd.ntmps28
      go_wp2_with fail
      go_ret
      exact ⟨rfl, Grow.alloc _ _⟩
    · have e1 : (k == 1) = false := by simpa using h1
      have e2 : (k == 2) = false := by simpa using h2
      rw [if_neg h1, if_neg h2]
      clear h1 h2
      go_enter Tryd.func28, Tryd.ntmps28
      go_wp2_with fail
      go_ret
      exact ⟨rfl, Grow.alloc _ _⟩
theorem near_eq (f : ByteArray) (L : List UInt8) : strB (f.data.toList ++ [32] ++ L) = f ++ ⟨#[32]⟩ ++ strB L := by
  apply ByteArray.ext
  apply Array.ext'
  simp [strB]
theorem comp_eq (f s : ByteArray) (v : ByteArray) : strB (f.data.toList ++ [32] ++ s.data.toList ++ [32] ++ v.data.toList) = f ++ ⟨#[32]⟩ ++ s ++ ⟨#[32]⟩ ++ v := by
  apply ByteArray.ext
  apply Array.ext'
  simp [strB]
theorem not_eq (L : List UInt8) : strB ([110, 111, 116, 32] ++ L) = ⟨#[110, 111, 116, 32]⟩ ++ strB L := by
  apply ByteArray.ext
  apply Array.ext'
  simp [strB]
theorem par_eq (L : List UInt8) : strB ([40, 32] ++ L ++ [32, 41]) = ⟨#[40, 32]⟩ ++ strB L ++ ⟨#[32, 41]⟩ := by
  apply ByteArray.ext
  apply Array.ext'
  simp [strB]
theorem itoa_c (x : Int) (hx : I64 x) (w : World) (ht : tabPow w) : Calls Tryd.prog 18 #[.int .i64 x] w fun e w' => e = .returned (.string (strB (Lib.itoa x))) ∧ Grow w w' := by
  refine (Tryd.strconv_Itoa x hx.1 hx.2 w ht).mono ?_
  rintro e w' ⟨rfl, k, os, rfl⟩
  exact ⟨rfl, Lib.below_grow _ _ (Nat.le_refl _) _ _⟩
/-- What a node's writing is good for. -/
def NodeC (n : NodeR) (S : Nat → Prop) (u : Value) (w : World) : Prop := ∀ (least : Int) (w' : World), I64 least → Grow w w' → Calls Tryd.prog 17 #[u, .int .i64 least] w' fun e w'' => e = .returned (.string (strB (nodeT least n))) ∧ Grow w' w''
set_option maxRecDepth 100000 in
set_option maxHeartbeats 8000000 in
/-- A node that needs no parentheses. -/
theorem nodeBody_c (a : NodeR) (S : Nat → Prop) (u : Value) (w : World) (hfit : a.Fit) (hwg : a.wgt ≤ 1073741824) (ht1 : tabSpace w) (ht2 : tabPow w) (ha : a.In S w u) (least : Int) (htl : ¬ tightI a.kind < least)
    (hkids : ∀ i (h : i < a.kids.length) (v : Value), a.kids[i].In S w v → NodeC a.kids[i] S v w) :
    Calls Tryd.prog 17 #[u, .int .i64 least] w fun e w' => e = .returned (.string (strB (bodyT a))) ∧ Grow w w' := by
  obtain ⟨k, ks, f, s, x⟩ := a
  obtain ⟨ak, ap, an, ac, af, as_, ax, rfl⟩ := NodeR.In.value ha
  obtain ⟨rfl, rfl, rfl, rfl, rfl, hac, hak⟩ := ha.kid
  have hlenT := bodyT_len _ hfit
  have hwl : wgtL ks ≤ 1073741824 := by simp only [NodeR.wgt] at hwg; omega
  have hws : af.size ≤ 1073741824 ∧ as_.size ≤ 1073741824 ∧ ks.length ≤ 1073741824 := by simp only [NodeR.wgt] at hwg; omega
  have HFIT := hid hfit
  unfold NodeR.Fit at hfit
  obtain ⟨hik, hix, hf, hs, hlen, hkf⟩ := hfit
  simp only [NodeR.kind, NodeR.kids] at htl hkids
  have HC := hid hkids
  have HK := hid hak
  have HF := hid hkf
  have HX := hid hix
  have HT1 := hid ht1
  have HT2 := hid ht2
  have HLT := hid hlenT
  have HWL := hid hwl
  have HWQ := hid hwg
  have HWS := hid hws
  have hf9 : (af.size : Int) ≤ 1073741824 := by omega
  have hs9 : (as_.size : Int) ≤ 1073741824 := by omega
  have hn9 : (ks.length : Int) ≤ 1073741824 := by omega
  have hlt : decide (tightI ak < least) = false := by simpa using htl
  clear ha hak hkids hkf hix ht1 ht2 hlenT hwl hws hf hs hlen htl hwg
  by_cases k6 : ak = 6
  · subst k6
    have hT := hid (show bodyT (.mk 6 ks af as_ ax) = [97, 108, 108] from by simp [bodyT])
    have hlt2 : decide ((3 : Int) < least) = false := hlt
    clear hlt HC HK HF HX HT1 HT2 HLT hac
    go_enter Tryd.func17, Tryd.ntmps17
    go_wp2_with fail
    refine (tight_c _ _ _ _ _ _ _ _).mono ?_
    rintro e w1 ⟨rfl, g1⟩
    have G1 := hid ((Grow.alloc w (.cells #[.int .i64 6, .slice ap ks.length ac, .string af, .string as_, .int .i64 ax] 24)).trans g1)
    have hB1 := hid (g1.heap (heap_new w (.cells #[.int .i64 6, .slice ap ks.length ac, .string af, .string as_, .int .i64 ax] 24)))
    have hz1 := heap_lt hB1.out
    clear g1
    generalize w.heap.size = H at *
    have c0 : w1.cell? ⟨H, 0, none⟩ = some (.int .i64 6) := by rw [heap_cell hB1.out]; rfl
    have c1 : w1.cell? ⟨H, 1, none⟩ = some (.slice ap ks.length ac) := by rw [heap_cell hB1.out]; rfl
    have c2 : w1.cell? ⟨H, 2, none⟩ = some (.string af) := by rw [heap_cell hB1.out]; rfl
    have c3 : w1.cell? ⟨H, 3, none⟩ = some (.string as_) := by rw [heap_cell hB1.out]; rfl
    have c4 : w1.cell? ⟨H, 4, none⟩ = some (.int .i64 ax) := by rw [heap_cell hB1.out]; rfl
    rw [show tightI 6 = 3 from rfl]
    go_wp2_with fail
    go_ret
    exact ⟨by rw [hT.out]; rfl, G1.out⟩
  by_cases k5 : ak = 5
  · subst k5
    have hT := hid (show bodyT (.mk 5 ks af as_ ax) = af.data.toList ++ [32] ++ Lib.itoa ax from by simp [bodyT])
    have hI := hid (fun w' (g : Grow w w') => itoa_c ax HX.out w' (tab_grow HT2.out g))
    have hil := Lib.itoa_length_le ax HX.out.1 HX.out.2
    have his : ((strB (Lib.itoa ax)).size : Int) ≤ 21 := by rw [strB_size]; omega
    clear hil
    have hlt2 : decide ((3 : Int) < least) = false := hlt
    clear hlt HC HK HF HX HT1 HT2 HLT hac
    go_enter Tryd.func17, Tryd.ntmps17
    go_wp2_with fail
    refine (tight_c _ _ _ _ _ _ _ _).mono ?_
    rintro e w1 ⟨rfl, g1⟩
    have G1 := hid ((Grow.alloc w (.cells #[.int .i64 5, .slice ap ks.length ac, .string af, .string as_, .int .i64 ax] 24)).trans g1)
    have hB1 := hid (g1.heap (heap_new w (.cells #[.int .i64 5, .slice ap ks.length ac, .string af, .string as_, .int .i64 ax] 24)))
    have hz1 := heap_lt hB1.out
    clear g1
    generalize w.heap.size = H at *
    have c0 : w1.cell? ⟨H, 0, none⟩ = some (.int .i64 5) := by rw [heap_cell hB1.out]; rfl
    have c1 : w1.cell? ⟨H, 1, none⟩ = some (.slice ap ks.length ac) := by rw [heap_cell hB1.out]; rfl
    have c2 : w1.cell? ⟨H, 2, none⟩ = some (.string af) := by rw [heap_cell hB1.out]; rfl
    have c3 : w1.cell? ⟨H, 3, none⟩ = some (.string as_) := by rw [heap_cell hB1.out]; rfl
    have c4 : w1.cell? ⟨H, 4, none⟩ = some (.int .i64 ax) := by rw [heap_cell hB1.out]; rfl
    rw [show tightI 5 = 3 from rfl]
    go_wp2_with fail
    have m1 : ¬ 9223372036854775807 < af.size + 1 := by omega
    have m2 : ¬ 9223372036854775807 < af.size + 1 + (strB (Lib.itoa ax)).size := by omega
    replace his := hid his
    refine wp_rely [.eq (.pointer (some ⟨H, 2, none⟩)), .eq (.string af), .eq (.string (af ++ ⟨#[32]⟩)), .eq (.pointer (some ⟨H, 4, none⟩)), .eq (.int .i64 ax), .eq (.string (strB (Lib.itoa ax))), .eq (.string (af ++ ⟨#[32]⟩ ++ strB (Lib.itoa ax))), .eq (.string (af ++ ⟨#[32]⟩ ++ strB (Lib.itoa ax)))] (by kernel_rfl) (by kernel_rfl) (by kernel_rfl) ?_ ?_
    · simp only [relyGoals]
      refine ⟨?_, ?_, ?_, ?_, ?_, ?_, ?_, ?_, trivial⟩
      all_goals intro t w' hsz hg hdd hfr
      all_goals simp only [depsDid, Did, perAt, List.getElem?_cons_zero, List.getElem?_cons_succ, List.getD_cons_zero, List.getD_cons_succ, Per.eq, Per.row, Per.of, and_true, Array.getD_eq_getD_getElem?] at hdd
      · rw [if_pos (by rfl)]
        try simp only [perAt, List.getD_cons_zero, List.getD_cons_succ, Per.eq, Per.row, Per.of]
        have hs2 := hfr 2 (by kernel_rfl)
        simp only [Array.getD_eq_getD_getElem?] at hs2
        simp [execOp, Act.eval, hdd, hs2, relyUpon, go_sem, Grow.refl]
      · rw [if_pos (by rfl)]
        try simp only [perAt, List.getD_cons_zero, List.getD_cons_succ, Per.eq, Per.row, Per.of]
        have kc := hg.cells
        simp [execOp, Act.eval, hdd, relyUpon, go_sem, Grow.refl, kc, c2, c4, hz1]
      · rw [if_pos (by rfl)]
        try simp only [perAt, List.getD_cons_zero, List.getD_cons_succ, Per.eq, Per.row, Per.of]
        simp [execOp, Act.eval, hdd, relyUpon, go_sem, Grow.refl, m1]
      · rw [if_pos (by rfl)]
        try simp only [perAt, List.getD_cons_zero, List.getD_cons_succ, Per.eq, Per.row, Per.of]
        have hs2 := hfr 2 (by kernel_rfl)
        simp only [Array.getD_eq_getD_getElem?] at hs2
        simp [execOp, Act.eval, hdd, hs2, relyUpon, go_sem, Grow.refl]
      · rw [if_pos (by rfl)]
        try simp only [perAt, List.getD_cons_zero, List.getD_cons_succ, Per.eq, Per.row, Per.of]
        have kc := hg.cells
        simp [execOp, Act.eval, hdd, relyUpon, go_sem, Grow.refl, kc, c2, c4, hz1]
      · rw [if_pos (by rfl)]
        try simp only [perAt, List.getD_cons_zero, List.getD_cons_succ, Per.eq, Per.row, Per.of]
        simp [execOp, Act.eval, hdd, relyUpon, go_sem]
        refine (hI.out w' (G1.out.trans hg)).mono fun e w'' h => ?_
        obtain ⟨h1, h2⟩ := h
        have h3 : Grow w' w'' := by first | exact h2 | (rw [← h2]; exact Grow.refl _)
        first | exact ⟨h3, h1⟩ | exact ⟨_, h1, h3, rfl⟩ | exact ⟨h1, h3⟩
      · rw [if_pos (by rfl)]
        try simp only [perAt, List.getD_cons_zero, List.getD_cons_succ, Per.eq, Per.row, Per.of]
        simp [execOp, Act.eval, hdd, relyUpon, go_sem, Grow.refl, m2]
      · rw [if_pos (by rfl)]
        try simp only [perAt, List.getD_cons_zero, List.getD_cons_succ, Per.eq, Per.row, Per.of]
        simp [execOp, Act.eval, hdd, relyUpon, go_sem, Grow.refl]
    intro wz hgz
    simp only [relyEnd, List.headD_cons, List.tail_cons, Per.eq, Per.row, Per.of]
    rintro _ rfl _ rfl _ rfl _ rfl _ rfl _ rfl _ rfl _ rfl
    go_simp
    go_wp2_with fail
    go_ret
    exact ⟨by rw [hT.out, near_eq]; rfl, G1.out.trans hgz⟩
  by_cases k4 : ak = 4
  · subst k4
    have hT := hid (show bodyT (.mk 4 ks af as_ ax) = af.data.toList ++ [32] ++ as_.data.toList ++ [32] ++ valueT af ax from by simp [bodyT])
    have hI := hid (fun w' (g : Grow w w') => itoa_c ax HX.out w' (tab_grow HT2.out g))
    have hWo := hid (fun w' (g : Grow w w') => word_c af ax w' (tab_grow HT1.out g))
    have hNm := hid (fun w' => names_c af w')
    have hwl := wordP_len af ax
    have hwz : ((wordP af ax).1.size : Int) ≤ 8 := by
      have : (wordP af ax).1.data.toList.length = (wordP af ax).1.size := by simp
      omega
    have hil := Lib.itoa_length_le ax HX.out.1 HX.out.2
    have his : ((strB (Lib.itoa ax)).size : Int) ≤ 21 := by rw [strB_size]; omega
    have m1 : ¬ 9223372036854775807 < af.size + 1 := by omega
    have m2 : ¬ 9223372036854775807 < af.size + 1 + as_.size := by omega
    have m3 : ¬ 9223372036854775807 < af.size + 1 + as_.size + 1 := by omega
    have m4 : ¬ 9223372036854775807 < af.size + 1 + as_.size + 1 + (strB (Lib.itoa ax)).size := by omega
    have m5 : ¬ 9223372036854775807 < af.size + 1 + as_.size + 1 + (wordP af ax).1.size := by omega
    clear hil hwl
    replace his := hid his
    replace hwz := hid hwz
    have hlt2 : decide ((3 : Int) < least) = false := hlt
    clear hlt HC HK HF HX HT1 HT2 HLT hac
    go_enter Tryd.func17, Tryd.ntmps17
    go_wp2_with fail
    refine (tight_c _ _ _ _ _ _ _ _).mono ?_
    rintro e w1 ⟨rfl, g1⟩
    have G1 := hid ((Grow.alloc w (.cells #[.int .i64 4, .slice ap ks.length ac, .string af, .string as_, .int .i64 ax] 24)).trans g1)
    have hB1 := hid (g1.heap (heap_new w (.cells #[.int .i64 4, .slice ap ks.length ac, .string af, .string as_, .int .i64 ax] 24)))
    have hz1 := heap_lt hB1.out
    clear g1
    generalize w.heap.size = H at *
    have c0 : w1.cell? ⟨H, 0, none⟩ = some (.int .i64 4) := by rw [heap_cell hB1.out]; rfl
    have c1 : w1.cell? ⟨H, 1, none⟩ = some (.slice ap ks.length ac) := by rw [heap_cell hB1.out]; rfl
    have c2 : w1.cell? ⟨H, 2, none⟩ = some (.string af) := by rw [heap_cell hB1.out]; rfl
    have c3 : w1.cell? ⟨H, 3, none⟩ = some (.string as_) := by rw [heap_cell hB1.out]; rfl
    have c4 : w1.cell? ⟨H, 4, none⟩ = some (.int .i64 ax) := by rw [heap_cell hB1.out]; rfl
    rw [show tightI 4 = 3 from rfl]
    go_wp2_with fail
    refine (hI.out _ G1.out).mono ?_
    rintro e w2 ⟨rfl, g2⟩
    have G2 := hid (G1.out.trans g2)
    have d2 := g2.cell c2
    have d3 := g2.cell c3
    have d4 := g2.cell c4
    clear c0 c1 c2 c3 c4 g2 hI
    go_wp2_with fail
    refine (hNm.out _).mono ?_
    rintro e w3 ⟨rfl, rfl⟩
    cases hnm : namesB af with
    | false =>
      have hv := hid (show valueT af ax = (strB (Lib.itoa ax)).data.toList from by unfold valueT; rw [if_neg (by simp [hnm])]; rfl)
      clear hnm
      go_wp2_with fail
      go_ret
      exact ⟨by rw [hT.out, hv.out, comp_eq]; rfl, G2.out⟩
    | true =>
      have hv := hid (show valueT af ax = (wordP af ax).1.data.toList from by unfold valueT; rw [if_pos hnm])
      clear hnm
      go_wp2_with fail
      refine (hWo.out _ G2.out).mono ?_
      rintro e w3 ⟨rfl, g3⟩
      have G3 := hid (G2.out.trans g3)
      have e2 := g3.cell d2
      have e3 := g3.cell d3
      clear d2 d3 d4 g3 hWo
      go_wp2_with fail
      go_ret
      exact ⟨by rw [hT.out, hv.out, comp_eq]; rfl, G3.out⟩
  by_cases k3 : ak = 3
  · subst k3
    by_cases hl1 : ks.length = 1
    · obtain ⟨b, o, rfl, hb, hcell⟩ := HK.out (by omega)
      have h0 : 0 < ks.length := by omega
      obtain ⟨ck, cp, cn, cc, cf, cs, cx, d0, d1, d2, d3, d4, hin⟩ := hcell 0 h0
      simp only [Nat.zero_mul, Nat.add_zero] at d0 d1 d2 d3 d4
      have hT := hid (show bodyT (.mk 3 ks af as_ ax) = ([110, 111, 116, 32] : List UInt8) ++ nodeT 3 ks[0] from by
        obtain ⟨a, rfl⟩ : ∃ a, ks = [a] := by
          cases ks with
          | nil => simp at hl1
          | cons a l => cases l with
            | nil => exact ⟨a, rfl⟩
            | cons b m => simp at hl1
        simp [bodyT, kidsT, nodeT])
      have hnl := nodeT_len 3 ks[0] (kidsFit_at ks 0 h0 HF.out)
      have hw0 := wgtL_at ks 0 h0
      have HWL' := HWL.out
      have his : ((strB (nodeT 3 ks[0])).size : Int) ≤ 34359738400 := by rw [strB_size]; omega
      have m1 : ¬ 9223372036854775807 < 4 + (strB (nodeT 3 ks[0])).size := by omega
      have CC := hid (fun (w5 : World) (g : Grow w w5) => HC.out 0 h0 _ hin 3 w5 ⟨by omega, by omega⟩ g)
      have hle : ((ks.length : Int) == 1) = true := by simp; omega
      have hlq : (0 : Int) < (ks.length : Int) := by omega
      replace his := hid his
      clear hnl hw0 HWL' hcell hin HC
      generalize nodeT 3 ks[0] = NT at *
      replace hl1 := hid hl1
      have hlt2 : decide ((3 : Int) < least) = false := hlt
      clear hlt HK HF HX HT1 HT2 HLT hac
      go_enter Tryd.func17, Tryd.ntmps17
      go_wp2_with fail
      refine (tight_c _ _ _ _ _ _ _ _).mono ?_
      rintro e w1 ⟨rfl, g1⟩
      have G1 := hid ((Grow.alloc w (.cells #[.int .i64 3, .slice (some ⟨b, o, none⟩) ks.length ac, .string af, .string as_, .int .i64 ax] 24)).trans g1)
      have hB1 := hid (g1.heap (heap_new w (.cells #[.int .i64 3, .slice (some ⟨b, o, none⟩) ks.length ac, .string af, .string as_, .int .i64 ax] 24)))
      have hz1 := heap_lt hB1.out
      clear g1
      generalize w.heap.size = H at *
      have c0 : w1.cell? ⟨H, 0, none⟩ = some (.int .i64 3) := by rw [heap_cell hB1.out]; rfl
      have c1 : w1.cell? ⟨H, 1, none⟩ = some (.slice (some ⟨b, o, none⟩) ks.length ac) := by rw [heap_cell hB1.out]; rfl
      have c2 : w1.cell? ⟨H, 2, none⟩ = some (.string af) := by rw [heap_cell hB1.out]; rfl
      have c3 : w1.cell? ⟨H, 3, none⟩ = some (.string as_) := by rw [heap_cell hB1.out]; rfl
      have c4 : w1.cell? ⟨H, 4, none⟩ = some (.int .i64 ax) := by rw [heap_cell hB1.out]; rfl
      have f0 := G1.out.cell d0
      have f1 := G1.out.cell d1
      have f2 := G1.out.cell d2
      have f3 := G1.out.cell d3
      have f4 := G1.out.cell d4
      clear d0 d1 d2 d3 d4
      rw [show tightI 3 = 3 from rfl]
      go_wp2_with fail
      refine (CC.out _ G1.out).mono ?_
      rintro e w2 ⟨rfl, g2⟩
      have G2 := hid (G1.out.trans g2)
      clear g2 CC f0 f1 f2 f3 f4 c0 c1 c2 c3 c4
      go_wp2_with fail
      go_ret
      exact ⟨by rw [hT.out, not_eq]; rfl, G2.out⟩
    · have hT := hid (show bodyT (.mk 3 ks af as_ ax) = [] from by simp [bodyT, hl1])
      have hle : ((ks.length : Int) == 1) = false := by simp; omega
      replace hl1 := hid hl1
      have hlt2 : decide ((3 : Int) < least) = false := hlt
      clear hlt HC HK HF HX HT1 HT2 HLT hac
      go_enter Tryd.func17, Tryd.ntmps17
      go_wp2_with fail
      refine (tight_c _ _ _ _ _ _ _ _).mono ?_
      rintro e w1 ⟨rfl, g1⟩
      have G1 := hid ((Grow.alloc w (.cells #[.int .i64 3, .slice ap ks.length ac, .string af, .string as_, .int .i64 ax] 24)).trans g1)
      have hB1 := hid (g1.heap (heap_new w (.cells #[.int .i64 3, .slice ap ks.length ac, .string af, .string as_, .int .i64 ax] 24)))
      have hz1 := heap_lt hB1.out
      clear g1
      generalize w.heap.size = H at *
      have c0 : w1.cell? ⟨H, 0, none⟩ = some (.int .i64 3) := by rw [heap_cell hB1.out]; rfl
      have c1 : w1.cell? ⟨H, 1, none⟩ = some (.slice ap ks.length ac) := by rw [heap_cell hB1.out]; rfl
      have c2 : w1.cell? ⟨H, 2, none⟩ = some (.string af) := by rw [heap_cell hB1.out]; rfl
      have c3 : w1.cell? ⟨H, 3, none⟩ = some (.string as_) := by rw [heap_cell hB1.out]; rfl
      have c4 : w1.cell? ⟨H, 4, none⟩ = some (.int .i64 ax) := by rw [heap_cell hB1.out]; rfl
      rw [show tightI 3 = 3 from rfl]
      go_wp2_with fail
      go_ret
      exact ⟨by rw [hT.out]; rfl, G1.out⟩
  by_cases k12 : ak = 1
  · subst k12
    have hT := hid (show bodyT (.mk 1 ks af as_ ax) = Lib.join ((ks.map fun n => strB (nodeT 2 n)).map (·.data.toList)) (sepT 1) from by
      simp only [bodyT, List.map_map]
      rw [kidsT_map]
      simp
      rfl)
    have hjl := bodyT_len _ HFIT.out
    have hwq := HWQ.out
    rw [hT.out] at hjl
    have hjl2 := hid (show (Lib.join ((ks.map fun n => strB (nodeT 2 n)).map (·.data.toList)) (sepT 1)).length ≤ 140737488355328 from by omega)
    have CC := hid (fun (i : Nat) (h : i < ks.length) (v : Value) (hin : ks[i].In S w v) (w5 : World) (g : Grow w w5) => HC.out i h v hin 2 w5 ⟨by omega, by omega⟩ g)
    have HTX := hid (fun (i : Nat) (h : i < ks.length) => show (ks.map fun n => strB (nodeT 2 n)).take i ++ [strB (nodeT 2 ks[i])] = (ks.map fun n => strB (nodeT 2 n)).take (i + 1) from by
      rw [List.take_add_one]
      simp [h])
    have HTA := hid (show (ks.map fun n => strB (nodeT 2 n)).take ks.length = ks.map fun n => strB (nodeT 2 n) from by rw [List.take_of_length_le (by simp)])
    have HML := hid (show (ks.map fun n => strB (nodeT 2 n)).length = ks.length from by simp)
    clear hjl hwq k3 k4 k5 k6
    generalize (ks.map fun n => strB (nodeT 2 n)) = TS at *
    have hlt2 : decide ((1 : Int) < least) = false := hlt
    clear hlt HC HF HX HT1 HT2 HLT hac
    go_enter Tryd.func17, Tryd.ntmps17
    go_wp2_with fail
    refine (tight_c _ _ _ _ _ _ _ _).mono ?_
    rintro e w1 ⟨rfl, g1⟩
    have G1 := hid ((Grow.alloc w (.cells #[.int .i64 1, .slice ap ks.length ac, .string af, .string as_, .int .i64 ax] 24)).trans g1)
    have hB1 := hid (g1.heap (heap_new w (.cells #[.int .i64 1, .slice ap ks.length ac, .string af, .string as_, .int .i64 ax] 24)))
    have hz1 := heap_lt hB1.out
    clear g1
    generalize w.heap.size = H at *
    have c0 : w1.cell? ⟨H, 0, none⟩ = some (.int .i64 1) := by rw [heap_cell hB1.out]; rfl
    have c1 : w1.cell? ⟨H, 1, none⟩ = some (.slice ap ks.length ac) := by rw [heap_cell hB1.out]; rfl
    rw [show tightI 1 = 1 from rfl]
    go_wp2_with fail
    go_loopw [6, 29] (fun v i wr => ∃ j : Nat, j ≤ ks.length ∧ i = .int .i64 (j : Int) ∧ Hid (wr.ownsRow w1.heap.size 9 1 v j ((TS.take j).map Value.string)) ∧ Hid (Grow w1 wr)) (fun _ i _ => ks.length - (intOf i).toNat)
    case atStart => exact ⟨0, by omega, rfl, hid (by simpa using World.ownsRow_nil _ _ _ _), hid (Grow.refl _)⟩
    case round =>
      obtain ⟨j, hj, rfl, HO, HG⟩ := hrel
      by_cases hlt : j < ks.length
      · obtain ⟨b, o, rfl, hb, hcell⟩ := HK.out (by omega)
        obtain ⟨ck, cp, cn, cc, cf, cs, cx, d0, d1, d2, d3, d4, hin⟩ := hcell j hlt
        have c0r := HG.out.cell c0
        have hzr : H < wr.heap.size := Nat.lt_of_lt_of_le hz1 HG.out.size
        have GG := G1.out.trans HG.out
        replace d0 := GG.cell d0
        replace d1 := GG.cell d1
        replace d2 := GG.cell d2
        replace d3 := GG.cell d3
        replace d4 := GG.cell d4
        have C1 := hid (CC.out j hlt _ hin)
        have HX1 := hid (HTX.out j hlt)
        have i1 : (j : Int) < (ks.length : Int) := by omega
        have i0 : (0 : Int) ≤ (j : Int) := by omega
        replace GG := hid GG
        clear hcell hin
        generalize nodeT 2 ks[j] = NT at *
        go_wp2_with fail
        have GA := hid (GG.out.trans (Grow.alloc wr (.cells #[.int .i64 ck, .slice cp cn cc, .string cf, .string cs, .int .i64 cx] 24)))
        refine (C1.out _ GA.out).mono ?_
        rintro e w5 ⟨rfl, g5⟩
        have G5 := hid ((HG.out.trans (Grow.alloc wr (.cells #[.int .i64 ck, .slice cp cn cc, .string cf, .string cs, .int .i64 cx] 24))).trans g5)
        have O5 := hid (own_growQ (own_growQ HO.out (Grow.alloc wr (.cells #[.int .i64 ck, .slice cp cn cc, .string cf, .string cs, .int .i64 cx] 24))) g5)
        have hs5 := G5.out.size
        clear g5 C1 GA d0 d1 d2 d3 d4 HO
        go_wp2_with (at_builtin; refine wpList_push rfl _ _ 42 rfl 9 (.string ⟨#[]⟩) 1 16 Tryd.underlying42 infoStrQ rfl (by omega) w1.heap.size _ j _ rfl O5.out [_] rfl rfl (by simp [Value.oneCell']) (by unfold maxLen; omega) (by omega) hs5 ?_)
        intro v' w' ho hgr hs'
        have O6 := hid (show w'.ownsRow w1.heap.size 9 1 v' (j + 1) ((TS.take (j + 1)).map Value.string) from by
          rw [← HX1.out, List.map_append, List.map_take]
          exact ho)
        have G6 := hid (Row.below G5.out hgr hs5 (fun k hk => (O5.out.lt k hk).1))
        clear ho hgr O5 G5
        go_wp2_with fail
        go_roundw
        case rel => exact ⟨j + 1, by omega, by go_num, O6, G6⟩
        case measure => simp [intOf]; omega
      · obtain rfl : j = ks.length := by omega
        have O6 := hid (show wr.ownsRow w1.heap.size 9 1 _ TS.length (TS.map Value.string) from by
          have h := HO.out
          rw [HTA.out, ← HML.out] at h
          exact h)
        have CJ := hid (join_own_c TS _ ⟨(sepT 1).toArray⟩ _ wr O6.out (by rw [HML.out]; omega) hjl2.out)
        clear HO O6
        go_wp2_with fail
        refine (CJ.out).mono ?_
        rintro e w5 ⟨rfl, g5⟩
        have G5 := hid ((G1.out.trans HG.out).trans g5)
        clear g5 CJ
        go_wp2_with fail
        go_ret
        exact ⟨by rw [hT.out]; rfl, G5.out⟩

  by_cases k12' : ak = 2
  · have k12 := k12'
    clear k12'
    subst k12
    have hT := hid (show bodyT (.mk 2 ks af as_ ax) = Lib.join ((ks.map fun n => strB (nodeT 3 n)).map (·.data.toList)) (sepT 2) from by
      simp only [bodyT, List.map_map]
      rw [kidsT_map]
      simp
      rfl)
    have hjl := bodyT_len _ HFIT.out
    have hwq := HWQ.out
    rw [hT.out] at hjl
    have hjl2 := hid (show (Lib.join ((ks.map fun n => strB (nodeT 3 n)).map (·.data.toList)) (sepT 2)).length ≤ 140737488355328 from by omega)
    have CC := hid (fun (i : Nat) (h : i < ks.length) (v : Value) (hin : ks[i].In S w v) (w5 : World) (g : Grow w w5) => HC.out i h v hin 3 w5 ⟨by omega, by omega⟩ g)
    have HTX := hid (fun (i : Nat) (h : i < ks.length) => show (ks.map fun n => strB (nodeT 3 n)).take i ++ [strB (nodeT 3 ks[i])] = (ks.map fun n => strB (nodeT 3 n)).take (i + 1) from by
      rw [List.take_add_one]
      simp [h])
    have HTA := hid (show (ks.map fun n => strB (nodeT 3 n)).take ks.length = ks.map fun n => strB (nodeT 3 n) from by rw [List.take_of_length_le (by simp)])
    have HML := hid (show (ks.map fun n => strB (nodeT 3 n)).length = ks.length from by simp)
    clear hjl hwq k3 k4 k5 k6
    generalize (ks.map fun n => strB (nodeT 3 n)) = TS at *
    have hlt2 : decide ((2 : Int) < least) = false := hlt
    clear hlt HC HF HX HT1 HT2 HLT hac
    go_enter Tryd.func17, Tryd.ntmps17
    go_wp2_with fail
    refine (tight_c _ _ _ _ _ _ _ _).mono ?_
    rintro e w1 ⟨rfl, g1⟩
    have G1 := hid ((Grow.alloc w (.cells #[.int .i64 2, .slice ap ks.length ac, .string af, .string as_, .int .i64 ax] 24)).trans g1)
    have hB1 := hid (g1.heap (heap_new w (.cells #[.int .i64 2, .slice ap ks.length ac, .string af, .string as_, .int .i64 ax] 24)))
    have hz1 := heap_lt hB1.out
    clear g1
    generalize w.heap.size = H at *
    have c0 : w1.cell? ⟨H, 0, none⟩ = some (.int .i64 2) := by rw [heap_cell hB1.out]; rfl
    have c1 : w1.cell? ⟨H, 1, none⟩ = some (.slice ap ks.length ac) := by rw [heap_cell hB1.out]; rfl
    rw [show tightI 2 = 2 from rfl]
    go_wp2_with fail
    go_loopw [6, 29] (fun v i wr => ∃ j : Nat, j ≤ ks.length ∧ i = .int .i64 (j : Int) ∧ Hid (wr.ownsRow w1.heap.size 9 1 v j ((TS.take j).map Value.string)) ∧ Hid (Grow w1 wr)) (fun _ i _ => ks.length - (intOf i).toNat)
    case atStart => exact ⟨0, by omega, rfl, hid (by simpa using World.ownsRow_nil _ _ _ _), hid (Grow.refl _)⟩
    case round =>
      obtain ⟨j, hj, rfl, HO, HG⟩ := hrel
      by_cases hlt : j < ks.length
      · obtain ⟨b, o, rfl, hb, hcell⟩ := HK.out (by omega)
        obtain ⟨ck, cp, cn, cc, cf, cs, cx, d0, d1, d2, d3, d4, hin⟩ := hcell j hlt
        have c0r := HG.out.cell c0
        have hzr : H < wr.heap.size := Nat.lt_of_lt_of_le hz1 HG.out.size
        have GG := G1.out.trans HG.out
        replace d0 := GG.cell d0
        replace d1 := GG.cell d1
        replace d2 := GG.cell d2
        replace d3 := GG.cell d3
        replace d4 := GG.cell d4
        have C1 := hid (CC.out j hlt _ hin)
        have HX1 := hid (HTX.out j hlt)
        have i1 : (j : Int) < (ks.length : Int) := by omega
        have i0 : (0 : Int) ≤ (j : Int) := by omega
        replace GG := hid GG
        clear hcell hin
        generalize nodeT 3 ks[j] = NT at *
        go_wp2_with fail
        have GA := hid (GG.out.trans (Grow.alloc wr (.cells #[.int .i64 ck, .slice cp cn cc, .string cf, .string cs, .int .i64 cx] 24)))
        refine (C1.out _ GA.out).mono ?_
        rintro e w5 ⟨rfl, g5⟩
        have G5 := hid ((HG.out.trans (Grow.alloc wr (.cells #[.int .i64 ck, .slice cp cn cc, .string cf, .string cs, .int .i64 cx] 24))).trans g5)
        have O5 := hid (own_growQ (own_growQ HO.out (Grow.alloc wr (.cells #[.int .i64 ck, .slice cp cn cc, .string cf, .string cs, .int .i64 cx] 24))) g5)
        have hs5 := G5.out.size
        clear g5 C1 GA d0 d1 d2 d3 d4 HO
        go_wp2_with (at_builtin; refine wpList_push rfl _ _ 42 rfl 9 (.string ⟨#[]⟩) 1 16 Tryd.underlying42 infoStrQ rfl (by omega) w1.heap.size _ j _ rfl O5.out [_] rfl rfl (by simp [Value.oneCell']) (by unfold maxLen; omega) (by omega) hs5 ?_)
        intro v' w' ho hgr hs'
        have O6 := hid (show w'.ownsRow w1.heap.size 9 1 v' (j + 1) ((TS.take (j + 1)).map Value.string) from by
          rw [← HX1.out, List.map_append, List.map_take]
          exact ho)
        have G6 := hid (Row.below G5.out hgr hs5 (fun k hk => (O5.out.lt k hk).1))
        clear ho hgr O5 G5
        go_wp2_with fail
        go_roundw
        case rel => exact ⟨j + 1, by omega, by go_num, O6, G6⟩
        case measure => simp [intOf]; omega
      · obtain rfl : j = ks.length := by omega
        have O6 := hid (show wr.ownsRow w1.heap.size 9 1 _ TS.length (TS.map Value.string) from by
          have h := HO.out
          rw [HTA.out, ← HML.out] at h
          exact h)
        have CJ := hid (join_own_c TS _ ⟨(sepT 2).toArray⟩ _ wr O6.out (by rw [HML.out]; omega) hjl2.out)
        clear HO O6
        go_wp2_with fail
        refine (CJ.out).mono ?_
        rintro e w5 ⟨rfl, g5⟩
        have G5 := hid ((G1.out.trans HG.out).trans g5)
        clear g5 CJ
        go_wp2_with fail
        go_ret
        exact ⟨by rw [hT.out]; rfl, G5.out⟩

  · have e1 : (ak == 1) = false := by simp; omega
    have e2 : (ak == 2) = false := by simp; omega
    have e3 : (ak == 3) = false := by simp; omega
    have e4 : (ak == 4) = false := by simp; omega
    have e5 : (ak == 5) = false := by simp; omega
    have e6 : (ak == 6) = false := by simp; omega
    have hT := hid (show bodyT (.mk ak ks af as_ ax) = [] from by simp [bodyT, k12, k12', k3, k4, k5, k6])
    clear k3 k4 k5 k6 k12 k12'
    have hlt2 := hid hlt
    clear HC HK HF HX HT1 HT2 HLT hac
    go_enter Tryd.func17, Tryd.ntmps17
    go_wp2_with fail
    refine (tight_c _ _ _ _ _ _ _ _).mono ?_
    rintro e w1 ⟨rfl, g1⟩
    have G1 := hid ((Grow.alloc w (.cells #[.int .i64 ak, .slice ap ks.length ac, .string af, .string as_, .int .i64 ax] 24)).trans g1)
    have hB1 := hid (g1.heap (heap_new w (.cells #[.int .i64 ak, .slice ap ks.length ac, .string af, .string as_, .int .i64 ax] 24)))
    have hz1 := heap_lt hB1.out
    clear g1
    generalize w.heap.size = H at *
    have c0 : w1.cell? ⟨H, 0, none⟩ = some (.int .i64 ak) := by rw [heap_cell hB1.out]; rfl
    have c1 : w1.cell? ⟨H, 1, none⟩ = some (.slice ap ks.length ac) := by rw [heap_cell hB1.out]; rfl
    have c2 : w1.cell? ⟨H, 2, none⟩ = some (.string af) := by rw [heap_cell hB1.out]; rfl
    have c3 : w1.cell? ⟨H, 3, none⟩ = some (.string as_) := by rw [heap_cell hB1.out]; rfl
    have c4 : w1.cell? ⟨H, 4, none⟩ = some (.int .i64 ax) := by rw [heap_cell hB1.out]; rfl
    rw [show tightI ak = tightI ak from rfl]
    go_wp2_with fail
    go_ret
    exact ⟨by rw [hT.out]; rfl, G1.out⟩
theorem tightI_pos (k : Int) : 0 < tightI k ∧ tightI k ≤ 3 := by
  unfold tightI
  split
  · omega
  · split <;> omega
set_option maxRecDepth 100000 in
set_option maxHeartbeats 8000000 in
/-- A node that wants parentheses. -/
theorem nodePar_c (a : NodeR) (u : Value) (w : World) (S : Nat → Prop) (ha : a.In S w u) (hlen : (bodyT a).length ≤ 34359738400) (least : Int) (htl : tightI a.kind < least)
    (hbody : ∀ w', Grow w w' → Calls Tryd.prog 17 #[u, .int .i64 0] w' fun e w'' => e = .returned (.string (strB (bodyT a))) ∧ Grow w' w'') :
    Calls Tryd.prog 17 #[u, .int .i64 least] w fun e w' => e = .returned (.string (strB ([40, 32] ++ bodyT a ++ [32, 41]))) ∧ Grow w w' := by
  obtain ⟨k, ks, f, s, x⟩ := a
  obtain ⟨ak, ap, an, ac, af, as_, ax, rfl⟩ := NodeR.In.value ha
  obtain ⟨rfl, rfl, rfl, rfl, rfl, -, -⟩ := ha.kid
  have his : ((strB (bodyT (.mk ak ks af as_ ax))).size : Int) ≤ 34359738400 := by rw [strB_size]; omega
  have m1 : ¬ 9223372036854775807 < 2 + (strB (bodyT (.mk ak ks af as_ ax))).size := by omega
  have m2 : ¬ 9223372036854775807 < 2 + (strB (bodyT (.mk ak ks af as_ ax))).size + 2 := by omega
  have HB := hid hbody
  simp only [NodeR.kind] at htl
  have hlt : decide (tightI ak < least) = true := by simpa using htl
  replace his := hid his
  rw [par_eq]
  generalize bodyT (.mk ak ks af as_ ax) = BT at *
  clear ha hlen hbody htl
  have hlt2 := hid hlt
  clear hlt
  go_enter Tryd.func17, Tryd.ntmps17
  go_wp2_with fail
  refine (tight_c _ _ _ _ _ _ _ _).mono ?_
  rintro e w1 ⟨rfl, g1⟩
  have G1 := hid ((Grow.alloc w (.cells #[.int .i64 ak, .slice ap ks.length ac, .string af, .string as_, .int .i64 ax] 24)).trans g1)
  have hB1 := hid (g1.heap (heap_new w (.cells #[.int .i64 ak, .slice ap ks.length ac, .string af, .string as_, .int .i64 ax] 24)))
  have hz1 := heap_lt hB1.out
  have hlt := hlt2.out
  clear g1
  generalize w.heap.size = H at *
  have c0 : w1.cell? ⟨H, 0, none⟩ = some (.int .i64 ak) := by rw [heap_cell hB1.out]; rfl
  have c1 : w1.cell? ⟨H, 1, none⟩ = some (.slice ap ks.length ac) := by rw [heap_cell hB1.out]; rfl
  have c2 : w1.cell? ⟨H, 2, none⟩ = some (.string af) := by rw [heap_cell hB1.out]; rfl
  have c3 : w1.cell? ⟨H, 3, none⟩ = some (.string as_) := by rw [heap_cell hB1.out]; rfl
  have c4 : w1.cell? ⟨H, 4, none⟩ = some (.int .i64 ax) := by rw [heap_cell hB1.out]; rfl
  generalize tightI ak = ti at *
  go_wp2_with fail
  refine (HB.out _ G1.out).mono ?_
  rintro e w2 ⟨rfl, g2⟩
  have G2 := hid (G1.out.trans g2)
  clear g2 c0 c1 c2 c3 c4 HB
  go_wp2_with fail
  go_ret
  exact ⟨rfl, G2.out⟩
/-- A node is written. -/
theorem node_c : ∀ (fuel : Nat) (n : NodeR) (S : Nat → Prop) (u : Value) (w : World), n.wt ≤ fuel → n.Fit → n.wgt ≤ 1073741824 → tabSpace w → tabPow w → n.In S w u → NodeC n S u w := by
  intro fuel
  induction fuel with
  | zero => intro n S u w h; cases n; simp [NodeR.wt] at h
  | succ fuel ih =>
    intro n S u w hw hfit hwg ht1 ht2 ha least w' hI hg
    have body : ∀ (least : Int) (w' : World), Grow w w' → ¬ tightI n.kind < least → Calls Tryd.prog 17 #[u, .int .i64 least] w' fun e w'' => e = .returned (.string (strB (bodyT n))) ∧ Grow w' w'' := by
      intro least w' hg htl
      refine nodeBody_c n S u w' hfit hwg (tab_grow ht1 hg) (tab_grow ht2 hg) (NodeR.In.grow hg ha) least htl (fun i h v hv => ?_)
      obtain ⟨k, ks, f, s, x⟩ := n
      unfold NodeR.Fit at hfit
      obtain ⟨-, -, -, -, -, hk⟩ := hfit
      simp only [NodeR.wt] at hw
      simp only [NodeR.wgt] at hwg
      simp only [NodeR.kids] at h hv ⊢
      have h1 := wtL_at ks i h
      have h2 := wgtL_at ks i h
      exact ih ks[i] S v w' (by omega) (kidsFit_at ks i h hk) (by omega) (tab_grow ht1 hg) (tab_grow ht2 hg) hv
    by_cases htl : tightI n.kind < least
    · have hl := bodyT_len n hfit
      have := nodePar_c n u w' S (NodeR.In.grow hg ha) (by omega) least htl (fun w'' g => body 0 w'' (hg.trans g) (by have := (tightI_pos n.kind).1; omega))
      rw [show nodeT least n = [40, 32] ++ bodyT n ++ [32, 41] from by simp [nodeT, wrapT, htl]]
      exact this
    · have := body least w' hg htl
      rw [show nodeT least n = bodyT n from by simp [nodeT, wrapT, htl]]
      exact this
end Go.Proofs.YteilkcdbdpkbfaaDoor
