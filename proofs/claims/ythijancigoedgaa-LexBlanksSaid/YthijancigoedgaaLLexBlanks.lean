/- Newlines in the place of blanks change nothing, and signs are cut from a text's own bytes, one behind the other. -/
import Derived.Test.YthijancigoedgaaLexAwake
import Derived.Test.YthijancigoedgaaLexMore
import Derived.Test.YthijancigoedgaaLexTokEq
import Derived.Lib.ConvBytes
import Derived.Lib.UnsafeStr
import Derived.IntWalk
namespace Go.Proofs.Ythijancigoedgaa
open Go.RowKit
set_option linter.unusedVariables false
set_option linter.unusedSimpArgs false

theorem bytesWorld_grow (w : World) (e : TypeId) (s : ByteArray) : Grow w (Lib.bytesWorld w e s) :=
  Lib.below_freeze ((Below.drew (Below.refl w.heap.size w)).alloc (Nat.le_refl _) _) (p := ⟨w.heap.size, _, none⟩) (Nat.le_refl _) _
/-- The byte at a place, behind so many rounds. -/
def nlAt (s : ByteArray) (k j : Nat) : UInt8 := if j < k then nl (s.data.toList.getD j 0) else s.data.toList.getD j 0
theorem getD_at (s : ByteArray) (k : Nat) (h : k < s.size) : s.data.toList.getD k 0 = s[k] := by
  have h' : k < s.data.toList.length := by simpa using h
  simp only [List.getD, List.getElem?_eq_getElem h', Option.getD_some]
  rfl
def RowNl (s : ByteArray) (k : Nat) (C : Array Value) : Prop := ∀ j, j < s.size → C[j]? = some (.int .u8 ((nlAt s k j).toNat : Int))
theorem RowNl.start (w : World) (s : ByteArray) : RowNl s 0 (Lib.bytesCells w 5 s) := by
  intro j hj
  simp [Lib.bytesCells, Array.getElem?_append, List.getD, hj, nlAt]
theorem RowNl.same {s : ByteArray} {k : Nat} {C : Array Value} (h : RowNl s k C) (hk : k < s.size) (hb : (s[k]).toNat ≠ 32) : RowNl s (k + 1) C := by
  intro j hj
  rw [h j hj]
  congr 3
  unfold nlAt
  by_cases h1 : j < k
  · rw [if_pos h1, if_pos (by omega)]
  · rw [if_neg h1]
    by_cases h2 : j = k
    · subst h2
      rw [if_pos (by omega), getD_at s j hk]
      unfold nl
      rw [if_neg (fun e => hb (by rw [e]; rfl))]
    · rw [if_neg (by omega)]
theorem RowNl.put {s : ByteArray} {k : Nat} {C : Array Value} (h : RowNl s k C) (hk : k < s.size) (hb : (s[k]).toNat = 32) : RowNl s (k + 1) (C.setIfInBounds k (.int .u8 10)) := by
  intro j hj
  have hC : k < C.size := by
    have := h k hk
    rcases Nat.lt_or_ge k C.size with h1 | h1
    · exact h1
    · rw [Array.getElem?_eq_none h1] at this; cases this
  by_cases h2 : j = k
  · subst h2
    rw [Array.getElem?_setIfInBounds_self_of_lt hC]
    unfold nlAt nl
    rw [if_pos (by omega), getD_at s j hk, if_pos (UInt8.toNat_inj.1 hb)]
    rfl
  · rw [Array.getElem?_setIfInBounds_ne (Ne.symm h2), h j hj]
    congr 3
    unfold nlAt
    by_cases h1 : j < k
    · rw [if_pos h1, if_pos (by omega)]
    · rw [if_neg h1, if_neg (by omega)]
theorem RowNl.done {s : ByteArray} {C : Array Value} (h : RowNl s s.size C) : ∀ j (hj : j < (s.data.toList.map nl).length), C[j]? = some (.int .u8 ((s.data.toList.map nl)[j].toNat : Int)) := by
  intro j hj
  have hj' : j < s.size := by simpa using hj
  rw [h j hj']
  congr 3
  unfold nlAt
  rw [if_pos hj', getD_at s j hj']
  simp
  rfl
/-- What is known of the signs of a text, one by one. -/
theorem placed_at {S : List UInt8} : ∀ (l : List Tok) (i : Nat), Placed S i l → ∀ k (h : k < l.length), (l[k].text ≠ [] ∧ l[k].pos + l[k].text.length ≤ S.length ∧ (S.drop l[k].pos).take l[k].text.length = l[k].text ∧ i ≤ l[k].pos) ∧ ∀ (h2 : k + 1 < l.length), l[k].pos + l[k].text.length ≤ l[k + 1].pos
  | [], _, _, k, h => by simp at h
  | t :: l, i, hp, 0, h => by
    obtain ⟨h0, h1, h2, h3, h4⟩ := hp
    refine ⟨⟨h1, h2, h3, h0⟩, fun h5 => ?_⟩
    cases l with
    | nil => simp at h5
    | cons u l => exact h4.1
  | t :: l, i, hp, k + 1, h => by
    obtain ⟨h0, h1, h2, h3, h4⟩ := hp
    have := placed_at l _ h4 k (by simpa using h)
    refine ⟨⟨this.1.1, this.1.2.1, this.1.2.2.1, by have := this.1.2.2.2; simp only [List.getElem_cons_succ]; omega⟩, fun h5 => ?_⟩
    exact this.2 (by simpa using h5)
/-- Where the sign before the q-th one ends. -/
def endOf (l : List Tok) : Nat → Nat
  | 0 => 0
  | q + 1 => match l[q]? with | some t => t.pos + t.text.length | none => 0
theorem endOf_succ (l : List Tok) (q : Nat) (h : q < l.length) : endOf l (q + 1) = l[q].pos + l[q].text.length := by
  show (match l[q]? with | some t => t.pos + t.text.length | none => 0) = _
  rw [List.getElem?_eq_getElem h]
theorem endOf_le {S : List UInt8} {l : List Tok} (hp : Placed S 0 l) (q : Nat) (h : q < l.length) : endOf l q ≤ l[q].pos := by
  cases q with
  | zero => exact Nat.zero_le _
  | succ q =>
    rw [endOf_succ l q (by omega)]
    exact (placed_at l 0 hp q (by omega)).2 h
theorem toList_ne {l : List UInt8} (h : l ≠ []) : (⟨l.toArray⟩ : ByteArray).toList.isEmpty = false ∧ ((⟨l.toArray⟩ : ByteArray).toList == []) = false := by
  rw [ByteArray.toList_eq]
  cases l with
  | nil => exact absurd rfl h
  | cons b l => exact ⟨rfl, rfl⟩
set_option maxRecDepth 100000 in
set_option maxHeartbeats 4000000 in
theorem Blanks_walk (s : ByteArray) (w : World) (hs : s.size ≤ 140737488351232) :
    Calls Try.prog 5 #[.string s] w fun e w' => e = .returned (.bool true) ∧ Below w.heap.size w w' := by
  have C1 := hid (fun w => Scan_any s w hs)
  have C2 := fun w => Scan_any ⟨(s.data.toList.map nl).toArray⟩ w (by rw [ByteArray.size, List.size_toArray, List.length_map]; simpa using hs)
  simp only [scan_nl] at C2
  have C2 := hid C2
  have hpl : Placed s.data.toList 0 (scan s.data.toList).toks := by
    unfold scan
    split
    · trivial
    · exact scanL_placed s.data.toList s.data.toList.length 0 (by omega)
  have hpa : ∀ q (h : q < (scan s.data.toList).toks.length), (scan s.data.toList).toks[q].text ≠ [] ∧ (scan s.data.toList).toks[q].pos + (scan s.data.toList).toks[q].text.length ≤ s.size ∧
      s.extract (scan s.data.toList).toks[q].pos ((scan s.data.toList).toks[q].pos + (scan s.data.toList).toks[q].text.length) = ⟨(scan s.data.toList).toks[q].text.toArray⟩ ∧ endOf (scan s.data.toList).toks q ≤ (scan s.data.toList).toks[q].pos := fun q h => by
    obtain ⟨⟨h1, h2, h3, h4⟩, _⟩ := placed_at _ 0 hpl q h
    refine ⟨h1, by simpa using h2, by rw [sub_bytes, h3], endOf_le hpl q h⟩
  generalize scan s.data.toList = R at *
  have kc := Lib.run_convert_string_bytes (P := Try.prog) w 9 33 5 s Try.underlying9 Try.underlying33 Try.underlying5
  have HB := hid (Lib.bytesWorld_at_new w 5 s)
  have hg0 := bytesWorld_grow w 5 s
  have HZ := hid (Lib.bytesWorld_size w 5 s)
  have HR := hid (RowNl.start w s)
  generalize Lib.bytesWorld w 5 s = W0 at *
  generalize Lib.bytesCells w 5 s = K0 at *
  generalize grownCap w s.size 0 5 = cap at *
  clear hpl
  go_enter Try.func5, Try.ntmps5
  go_wp2_with fail
  go_loopw [4] (fun i wr => ∃ (k : Nat) (K : Array Value), k ≤ s.size ∧ i = .int .i64 (k : Int) ∧ Hid (wr.heap[w.heap.size]? = some (.cells K 5 (K0.size, K0.size + 1))) ∧ Hid (RowNl s k K) ∧ K.size = K0.size ∧ Grow w wr) (fun i _ => s.size - (intOf i).toNat)
  case atStart => exact ⟨0, K0, by omega, rfl, HB, HR, rfl, hg0⟩
  case round =>
    obtain ⟨k, K, hk, rfl, HK, HN, hKs, hg⟩ := hrel
    clear kc HB HZ HR hg0
    by_cases hlt : k < s.size
    · have hc0 : wr.cell? ⟨w.heap.size, k, none⟩ = some (.int .u8 ((s[k]).toNat : Int)) := by
        rw [heap_cell HK.out, HN.out k hlt]
        unfold nlAt
        rw [if_neg (by omega), getD_at s k hlt]
      have hkK : k < K.size := by
        have := HN.out k hlt
        rcases Nat.lt_or_ge k K.size with h1 | h1
        · exact h1
        · rw [Array.getElem?_eq_none h1] at this; cases this
      have hf0 : wr.frozen? ⟨w.heap.size, k, none⟩ = false := heap_frozen HK.out k (by omega)
      by_cases hb : (s[k]).toNat = 32
      · have HN2 := hid (HN.out.put hlt hb)
        have t32 : (((s[k]).toNat : Int) == 32) = true := by rw [hb]; rfl
        have hg2 : Grow w (wr.setCell ⟨w.heap.size, k, none⟩ (.int .u8 10)) := Grow.set hg _ _ (Nat.le_refl _) _
        clear hb
        go_wp2_with fail
        go_roundw
        case rel => exact ⟨k + 1, K.setIfInBounds k (.int .u8 10), by omega, by go_num, hid (heap_set HK.out k _), HN2, by rw [Array.size_setIfInBounds]; exact hKs, hg2⟩
        case measure => simp [intOf]; omega
      · have HN2 := hid (HN.out.same hlt hb)
        have t32 : (((s[k]).toNat : Int) == 32) = false := by simp; omega
        clear hb
        go_wp2_with fail
        go_roundw
        case rel => exact ⟨k + 1, K, by omega, by go_num, HK, HN2, hKs, hg⟩
        case measure => simp [intOf]; omega
    · obtain rfl : k = s.size := by omega
      have hkz : s.size ≤ K.size := by
        rcases Nat.eq_zero_or_pos s.size with h0 | h0
        · omega
        · have := HN.out (s.size - 1) (by omega)
          rcases Nat.lt_or_ge (s.size - 1) K.size with h1 | h1
          · omega
          · rw [Array.getElem?_eq_none h1] at this; cases this
      have hdone := hid HN.out.done
      go_wp2_with fail
      refine (C1.out _).mono ?_
      rintro e w1 ⟨v1, rfl, I1, g1⟩
      have hcv := conv_bytes (P := Try.prog) (w := w1) (src := 33) (e := 5) (dst := 9) Try.underlying33 Try.underlying5 Try.underlying9 w.heap.size 0 cap (s.data.toList.map nl) s.size (by simp)
        (fun j hj => by rw [Nat.zero_add, heap_cell (Grow.heap g1 HK.out)]; exact hdone.out j hj)
      have I1 := hid I1
      go_wp2_with fail
      refine (C2.out _).mono ?_
      rintro e w2 ⟨v2, rfl, I2, g2⟩
      have hI1 := I1.out.grow g2
      obtain ⟨p1, cap1, rfl, hn1, hc1⟩ := hI1
      obtain ⟨p2, cap2, rfl, hn2, hc2⟩ := I2
      have HX := hid (show ∀ q, q < R.toks.length → ∃ (ba bb : Nat) (kd nu : Int) (T : ByteArray) (x : Nat), p1 = some ⟨ba, 0, none⟩ ∧ p2 = some ⟨bb, 0, none⟩ ∧
          w2.cell? ⟨ba, q * 4, none⟩ = some (.int .i64 kd) ∧ w2.cell? ⟨ba, q * 4 + 1, none⟩ = some (.string T) ∧ w2.cell? ⟨ba, q * 4 + 2, none⟩ = some (.int .i64 nu) ∧ w2.cell? ⟨ba, q * 4 + 3, none⟩ = some (.int .i64 (x : Int)) ∧
          w2.cell? ⟨bb, q * 4, none⟩ = some (.int .i64 kd) ∧ w2.cell? ⟨bb, q * 4 + 1, none⟩ = some (.string T) ∧ w2.cell? ⟨bb, q * 4 + 2, none⟩ = some (.int .i64 nu) ∧ w2.cell? ⟨bb, q * 4 + 3, none⟩ = some (.int .i64 (x : Int)) ∧
          x + T.size ≤ s.size ∧ s.extract x (x + T.size) = T ∧ endOf R.toks q ≤ x ∧ endOf R.toks (q + 1) = x + T.size ∧ T.toList.isEmpty = false ∧ (T.toList == []) = false from by
        intro q hq
        obtain ⟨ba, e1, A⟩ := hc1 (by omega)
        obtain ⟨bb, e2, B⟩ := hc2 (by omega)
        obtain ⟨a0, a1, a2, a3⟩ := A q hq
        obtain ⟨b0, b1, b2, b3⟩ := B q hq
        obtain ⟨h1, h2, h3, h4⟩ := hpa q hq
        have hsz : (⟨R.toks[q].text.toArray⟩ : ByteArray).size = R.toks[q].text.length := by simp [ByteArray.size]
        exact ⟨ba, bb, _, _, _, _, e1, e2, a0, a1, a2, a3, b0, b1, b2, b3, by rw [hsz]; exact h2, by rw [hsz]; exact h3, h4, by rw [hsz]; exact endOf_succ _ _ hq, (toList_ne h1).1, (toList_ne h1).2⟩)
      have E0 : endOf R.toks 0 = 0 := rfl
      have E0 := hid E0
      clear hc1 hc2 hpa hcv C1 C2 I1 hdone hkz HK HN hKs
      generalize endOf R.toks = F at *
      have hn := hn1
      generalize R.toks.length = n at *
      have hgw := Grow.trans hg (Grow.trans g1 g2)
      have tn := fun a c d b w => tok_neq a c d b w
      have tg := fun x y xs ys w => tok_guard x y xs ys w
      go_wp2_with fail
      go_loopw [11, 12] (fun at_ i wr => ∃ q : Nat, q ≤ n ∧ i = .int .i64 (q : Int) ∧ at_ = .int .i64 (F q : Int) ∧ Grow w2 wr) (fun _ i _ => n - (intOf i).toNat)
      case atStart => exact ⟨0, by omega, rfl, by rw [E0.out]; rfl, Grow.refl _⟩
      case round =>
        obtain ⟨q, hq, rfl, rfl, hgr⟩ := hrel
        by_cases hlt2 : q < n
        · obtain ⟨ba, bb, kd, nu, T, x, rfl, rfl, a0, a1, a2, a3, b0, b1, b2, b3, q1, q2, q3, q4, q5, q6⟩ := HX.out q hlt2
          replace a0 := hgr.cell a0
          replace a1 := hgr.cell a1
          replace a2 := hgr.cell a2
          replace a3 := hgr.cell a3
          replace b0 := hgr.cell b0
          replace b1 := hgr.cell b1
          replace b2 := hgr.cell b2
          replace b3 := hgr.cell b3
          have hB := World.block_lt_of_cell? wr _ b0
          have hA := World.block_lt_of_cell? wr _ a0
          simp only at hA hB
          have hq0 : (0 : Int) ≤ (q : Int) := by omega
          have hq1 : (q : Int) < (n : Int) := by omega
          have t1 : ¬ (x : Int) < (F q : Int) := by omega
          have t2 : ¬ (s.size : Int) - (T.size : Int) < (x : Int) := by omega
          have t3 : decide ((x : Int) < (F q : Int)) = false := by simp; omega
          have t4 : decide ((s.size : Int) - (T.size : Int) < (x : Int)) = false := by simp; omega
          have hxs : x ≤ s.size := by omega
          have hTs : T.size ≤ s.size := by omega
          have i1 : IntKind.i64.wrap ((s.size : Int) - (T.size : Int)) = (s.size : Int) - (T.size : Int) := IntWalk.i64_in _ (by omega)
          have i2 : IntKind.i64.wrap ((x : Int) + (T.size : Int)) = (x : Int) + (T.size : Int) := IntWalk.i64_in _ (by omega)
          have i3 : (0 : Int) ≤ (x : Int) + (T.size : Int) := by omega
          have i4 : ((x : Int) + (T.size : Int)).toNat = x + T.size := by omega
          have i5 : (x : Int) ≤ (x : Int) + (T.size : Int) := by omega
          have i6 : (x : Int) + (T.size : Int) ≤ (s.size : Int) := by omega
          have HQ4 := hid q4
          clear q4 hlt hlt2
          go_wp2_with fail
          go_quiet (fail)
          clear i1 i2 i3 i4 i5 i6 q2 t1 t2 t3 t4
          go_wp2_with fail
          go_roundw
          case rel => exact ⟨q + 1, by omega, by go_num, by rw [HQ4.out]; go_num, by repeat' (first | exact hgr | refine Grow.drewNR ?_ _ | refine Below.alloc ?_ hgr.size _)⟩
          case measure => simp [intOf]; omega
        · obtain rfl : q = n := by omega
          clear HX E0
          go_wp2_with fail
          refine (awake_c _).mono ?_
          rintro e w5 ⟨rfl, b5⟩
          go_wp2_with fail
          go_ret
          exact ⟨rfl, Grow.trans hgw (Grow.trans hgr b5)⟩
namespace LawLexBlanks
open Go.ChangeShapes Go.WideShapes Go.ChangeAt Go.RowKit
open Go.ChangeMaps (open_string shut_string)
theorem own : ownKnob Try.prog.godebug = none := by kernel_rfl
theorem laidOut : laidOutB Try.prog = true := by kernel_rfl
set_option maxRecDepth 100000 in
theorem lifted (os : Os) (started : os.Started) (H : Type) (enc : TypeId × Value → H) :
    ReturnsInHanded {} Try.checked os 5 .any (Rows.lexBlanksSpec.pre6 enc Try.prog Try.f5 Rows.lexBlanksRow.domain false) (Rows.lexBlanksSpec.post enc Try.prog Try.f5 false true false false) := by
  refine returnsInHanded_of_change_sized (C := Try.checked) own started (by kernel_rfl) Try.func5
    (ChangeSpec.witness6 (enc := enc) (C := Try.checked) false ⟨#[], #[.string ByteArray.empty], []⟩ 8 (by kernel_rfl) (by kernel_rfl) (by kernel_rfl) (by kernel_rfl)) ?_
  intro W base args ds gs before hval0 hW hcnd hsz _
  have hval : ∀ (j : Nat) t v, Try.f5.params[j]? = some t → args[j]? = some v → Value.okWide Try.prog W .any base t v := hval0
  have hW' := hW
  obtain ⟨p, q, hA0, hV, rfl, hfz, hnd⟩ := hW
  have hA : DataW.TrodAll enc Try.prog W 0 (fun _ => true) true Try.f5.params.toList args.toList ds p := hA0
  rw [Try.params5] at hA hval hsz
  obtain ⟨v0, vs0, d0, ds0, p0, q0, hargs, rfl, rfl, h0, r0⟩ := trodAll_cons hA
  obtain ⟨rfl, rfl, rfl⟩ := trodAll_nil r0
  obtain rfl : args = #[v0] := by cases args; simp_all
  obtain ⟨rfl, rfl⟩ := trodVars_none hV
  obtain ⟨a0, rfl, rfl, rfl, w0⟩ := open_string Try.underlying9 (hval 0 9 v0 rfl rfl) h0
  have z0 : a0.size ≤ 140737488351232 := by
    have h := sized_string hsz (j := 0) (t := 9) (bytes := a0.data.toList) rfl rfl
    simpa [reachBytes] using h
  clear hA0 hval0
  refine (Blanks_walk a0 W z0).mono fun e W' ⟨he, bel⟩ => ?_
  subst he
  exact ⟨_, rfl, _, _, _, [], _, [], hW', trodAll_mk1 (shut_bool Try.underlying4 _), (trodAll_cons_mk (shut_string Try.underlying9 w0) trodAll_mk0), rfl, bel.frame _, fun h => by cases h⟩
theorem over : Rows.lexBlanksRow.holds Try.pinned (OpenSpec.ofChange Rows.lexBlanksSpec) :=
  OpenClaim.holds_of_wide 5 Try.f5 rfl rfl rfl rfl rfl rfl rfl ⟨rfl, rfl, rfl, rfl, rfl⟩ rfl rfl rfl rfl rfl (by kernel_rfl) Try.func5 (by kernel_rfl)
    (of_decide_eq_true (by kernel_rfl)) (by unfold Func.isWrapper; first | (rw [if_pos (by decide +kernel)]; kernel_rfl) | (rw [if_neg (by decide +kernel)]; exact ⟨rfl, rfl⟩))
    (fun os started H enc _ => lifted os started H enc)
end LawLexBlanks
/-- The given statement. -/
theorem lexBlanks_proved : Rows.LexBlanksSaid := LawLexBlanks.over
#print axioms lexBlanks_proved
end Go.Proofs.Ythijancigoedgaa
