/- A text that can be cut, and then a blank and any other one, is cut into the signs of both. -/
import Derived.Test.YthijancigoedgaaLexAwake
import Derived.Test.YthijancigoedgaaLexMore
import Derived.Test.YthijancigoedgaaLexTokEq
import Derived.IntWalk
namespace Go.Proofs.Ythijancigoedgaa
open Go.RowKit
set_option linter.unusedVariables false
set_option linter.unusedSimpArgs false

theorem bytes_addB (a b : List UInt8) : (⟨a.toArray⟩ : ByteArray) ++ ⟨b.toArray⟩ = ⟨(a ++ b).toArray⟩ := by
  apply ByteArray.ext
  simp [ByteArray.data_append]
theorem bytes_self (a : ByteArray) : (⟨a.data.toList.toArray⟩ : ByteArray) = a := by simp
theorem join_data (a b : ByteArray) : (a ++ (⟨#[32]⟩ : ByteArray) ++ b).data.toList = a.data.toList ++ 32 :: b.data.toList := by simp [ByteArray.data_append]
theorem scan_small {L : List UInt8} (h : L.length ≤ 4096) : scan L = scanL L 0 := by unfold scan; rw [if_neg (by omega)]
theorem cells_at {w : World} {p : Option Addr} {l : List Tok} (hc : 0 < l.length → ∃ b, p = some ⟨b, 0, none⟩ ∧ ∀ i (h : i < l.length), w.cell? ⟨b, i * 4, none⟩ = some (.int .i64 (l[i].kind : Int)) ∧ w.cell? ⟨b, i * 4 + 1, none⟩ = some (.string ⟨l[i].text.toArray⟩) ∧
    w.cell? ⟨b, i * 4 + 2, none⟩ = some (.int .i64 l[i].num) ∧ w.cell? ⟨b, i * 4 + 3, none⟩ = some (.int .i64 (l[i].pos : Int))) {i : Nat} {t : Tok} (h : l[i]? = some t) :
    ∃ b, p = some ⟨b, 0, none⟩ ∧ w.cell? ⟨b, i * 4, none⟩ = some (.int .i64 (t.kind : Int)) ∧ w.cell? ⟨b, i * 4 + 1, none⟩ = some (.string ⟨t.text.toArray⟩) ∧ w.cell? ⟨b, i * 4 + 2, none⟩ = some (.int .i64 t.num) ∧ w.cell? ⟨b, i * 4 + 3, none⟩ = some (.int .i64 (t.pos : Int)) := by
  obtain ⟨hi, e⟩ := List.getElem?_eq_some_iff.1 h
  obtain ⟨b, hp, H⟩ := hc (by omega)
  have := H i hi
  rw [e] at this
  exact ⟨b, hp, this⟩
theorem scanF_stop : ∀ (f : Nat) (L : List UInt8) (i : Nat), (scanF f L i).stop ≤ i + L.length
  | 0, _, i => by simp [scanF]
  | f + 1, [], i => by simp [scanF]
  | f + 1, b :: l, i => by
    unfold scanF
    by_cases hb : isBl b
    · rw [if_pos hb]
      have := scanF_stop f l (i + 1)
      simp only [List.length_cons]
      omega
    · rw [if_neg hb]
      cases hs : stepT (b :: l) with
      | bad e => simp
      | tok k n v =>
        obtain ⟨h0, h1⟩ := stepT_len (by simp) hs
        have := scanF_stop f ((b :: l).drop n) (i + n)
        rw [List.length_drop] at this
        simp only [Sc.cons]
        split <;> simp only <;> omega
theorem placed_pos {S : List UInt8} : ∀ (l : List Tok) (i : Nat), Placed S i l → ∀ k (h : k < l.length), l[k].pos ≤ S.length
  | [], _, _, k, h => by simp at h
  | t :: l, i, hp, 0, h => by
    obtain ⟨h0, h1, h2, h3, h4⟩ := hp
    simp only [List.getElem_cons_zero]
    omega
  | t :: l, i, hp, k + 1, h => placed_pos l _ hp.2.2.2.2 k (by simpa using h)
set_option maxRecDepth 100000 in
set_option maxHeartbeats 4000000 in
theorem Begins_walk (a b : ByteArray) (w : World) (ha : a.size ≤ 140737488351232) (hb : b.size ≤ 140737488351232) :
    Calls Try.prog 6 #[.string a, .string b] w fun e w' => e = .returned (.bool true) ∧ Below w.heap.size w w' := by
  have C1 := hid (fun w => Scan_any a w ha)
  by_cases he : (scan a.data.toList).err = 0
  · by_cases hbig : 4096 < a.size + b.size + 1
    · generalize scan a.data.toList = R at *
      obtain ⟨toks, stop, err⟩ := R
      simp only at *
      subst he
      have t1 : 4096 < (a.size : Int) + (b.size : Int) + 1 := by omega
      clear hbig
      go_enter Try.func6, Try.ntmps6
      go_wp2_with fail
      refine (C1.out _).mono ?_
      rintro e w1 ⟨v1, rfl, I1, g1⟩
      go_wp2_with fail
      refine (awake_c _).mono ?_
      rintro e w5 ⟨rfl, b5⟩
      go_wp2_with fail
      go_ret
      exact ⟨rfl, Grow.trans g1 b5⟩
    · have hla : a.data.toList.length = a.size := by simp
      have hlb : b.data.toList.length = b.size := by simp
      have C2 := fun w => Scan_any b w hb
      have C3 := fun w => Scan_any (a ++ (⟨#[32]⟩ : ByteArray) ++ b) w (by rw [ByteArray.size_append', ByteArray.size_append']; show a.size + 1 + b.size ≤ _; omega)
      rw [scan_small (by omega)] at he C1
      rw [scan_small (by omega)] at C2
      rw [join_data, scan_small (by rw [List.length_append, List.length_cons]; omega), scanL_begins _ _ _ 0 (Nat.le_refl _) he, show 0 + a.data.toList.length + 1 = 0 + (a.size + 1) by omega, scanL_shift] at C3
      have hsz : (a ++ (⟨#[32]⟩ : ByteArray)).size = a.size + 1 := by rw [ByteArray.size_append']; rfl
      have hpos : ∀ j (h : j < (scanL b.data.toList 0).toks.length), ((scanL b.data.toList 0).toks[j].pos : Int) ≤ 4096 := fun j h => by
        have hp := scanL_placed b.data.toList b.data.toList.length 0 (by omega)
        rw [List.drop_zero] at hp
        have := (placed_pos _ 0 hp j h)
        omega
      have hst2 : (scanL b.data.toList 0).stop ≤ 4096 := by have := scanF_stop b.data.toList.length b.data.toList 0; unfold scanL; omega
      generalize scanL a.data.toList 0 = R at *
      generalize scanL b.data.toList 0 = R2 at *
      obtain ⟨X, stop, err⟩ := R
      obtain ⟨Y, stop2, err2⟩ := R2
      simp only at *
      subst he
      have q1 : ¬ 9223372036854775807 < a.size + 1 := by omega
      have q2 : ¬ 9223372036854775807 < a.size + 1 + b.size := by omega
      have t1 : ¬ 4096 < (a.size : Int) + (b.size : Int) + 1 := by omega
      by_cases he2 : err2 = 0
      · subst he2
        have eR : Sc.cons X (Sc.shift (a.size + 1) ⟨Y, stop2, 0⟩) = ⟨X ++ Y.map (Tok.shift (a.size + 1)), a.size + 1 + stop2, 0⟩ := by rw [Nat.add_comm (a.size + 1) stop2]; rfl
        simp only [eR] at C3
        replace C2 := hid C2
        replace C3 := hid C3
        clear eR hla hlb
        go_enter Try.func6, Try.ntmps6
        go_wp2_with fail
        refine (C1.out _).mono ?_
        rintro e w1 ⟨v1, rfl, ⟨p1, cap1, rfl, hn1, hc1⟩, g1⟩
        go_wp2_with fail
        refine (C2.out _).mono ?_
        rintro e w2 ⟨v2, rfl, ⟨p2, cap2, rfl, hn2, hc2⟩, g2⟩
        go_wp2_with fail
        refine (C3.out _).mono ?_
        rintro e w3 ⟨v3, rfl, ⟨p3, cap3, rfl, hn3, hc3⟩, g3⟩
        have HX := hid (show ∀ q, q < X.length → ∃ (ba bb : Nat) (kd nu : Int) (T : ByteArray) (x : Int), p1 = some ⟨ba, 0, none⟩ ∧ p3 = some ⟨bb, 0, none⟩ ∧
            w3.cell? ⟨ba, q * 4, none⟩ = some (.int .i64 kd) ∧ w3.cell? ⟨ba, q * 4 + 1, none⟩ = some (.string T) ∧ w3.cell? ⟨ba, q * 4 + 2, none⟩ = some (.int .i64 nu) ∧ w3.cell? ⟨ba, q * 4 + 3, none⟩ = some (.int .i64 x) ∧
            w3.cell? ⟨bb, q * 4, none⟩ = some (.int .i64 kd) ∧ w3.cell? ⟨bb, q * 4 + 1, none⟩ = some (.string T) ∧ w3.cell? ⟨bb, q * 4 + 2, none⟩ = some (.int .i64 nu) ∧ w3.cell? ⟨bb, q * 4 + 3, none⟩ = some (.int .i64 x) from by
          intro q hq
          have e1 : X[q]? = some X[q] := List.getElem?_eq_getElem hq
          obtain ⟨ba, f1, a0, a1, a2, a3⟩ := cells_at hc1 e1
          obtain ⟨bb, f2, b0, b1, b2, b3⟩ := cells_at hc3 (show (X ++ Y.map (Tok.shift (a.size + 1)))[q]? = some X[q] by rw [List.getElem?_append_left hq, e1])
          have gg := Grow.trans g2 g3
          exact ⟨ba, bb, _, _, _, _, f1, f2, gg.cell a0, gg.cell a1, gg.cell a2, gg.cell a3, b0, b1, b2, b3⟩)
        have HY := hid (show ∀ j, j < Y.length → ∃ (ba bb : Nat) (kd nu : Int) (T : ByteArray) (x : Int), p2 = some ⟨ba, 0, none⟩ ∧ p3 = some ⟨bb, 0, none⟩ ∧ 0 ≤ x ∧ x ≤ 4096 ∧
            w3.cell? ⟨ba, j * 4, none⟩ = some (.int .i64 kd) ∧ w3.cell? ⟨ba, j * 4 + 1, none⟩ = some (.string T) ∧ w3.cell? ⟨ba, j * 4 + 2, none⟩ = some (.int .i64 nu) ∧ w3.cell? ⟨ba, j * 4 + 3, none⟩ = some (.int .i64 x) ∧
            w3.cell? ⟨bb, (X.length + j) * 4, none⟩ = some (.int .i64 kd) ∧ w3.cell? ⟨bb, (X.length + j) * 4 + 1, none⟩ = some (.string T) ∧ w3.cell? ⟨bb, (X.length + j) * 4 + 2, none⟩ = some (.int .i64 nu) ∧ w3.cell? ⟨bb, (X.length + j) * 4 + 3, none⟩ = some (.int .i64 (x + (a.size : Int) + 1)) from by
          intro j hj
          have e1 : Y[j]? = some Y[j] := List.getElem?_eq_getElem hj
          obtain ⟨ba, f1, a0, a1, a2, a3⟩ := cells_at hc2 e1
          obtain ⟨bb, f2, b0, b1, b2, b3⟩ := cells_at hc3 (show (X ++ Y.map (Tok.shift (a.size + 1)))[X.length + j]? = some (Tok.shift (a.size + 1) Y[j]) by rw [List.getElem?_append_right (by omega), Nat.add_sub_cancel_left, List.getElem?_map, e1]; rfl)
          refine ⟨ba, bb, _, _, _, _, f1, f2, by omega, hpos j hj, g3.cell a0, g3.cell a1, g3.cell a2, g3.cell a3, b0, b1, b2, ?_⟩
          rw [b3]
          simp only [Tok.shift, Option.some.injEq, Value.int.injEq, true_and]
          first | omega | (simp only [Tok.shift]; omega))
        have hn3' : X.length + Y.length ≤ 4096 := by simpa using hn3
        have hl3 : (X ++ Y.map (Tok.shift (a.size + 1))).length = X.length + Y.length := by simp
        rw [hl3]
        clear hc1 hc2 hc3 hn1 hn2 hn3 hl3 hpos
        generalize X.length = n at *
        generalize Y.length = m at *
        have tn := fun a c d b w => tok_neq a c d b w
        have tg := fun x y xs ys w => tok_guard x y xs ys w
        have hgw := Grow.trans g1 (Grow.trans g2 g3)
        go_wp2_with fail
        go_loopw [14] (fun i wr => ∃ q : Nat, q ≤ n + m ∧ i = .int .i64 (q : Int) ∧ Grow w3 wr) (fun i _ => n + m - (intOf i).toNat)
        case atStart => exact ⟨0, by omega, rfl, Grow.refl _⟩
        case round =>
          obtain ⟨q, hq, rfl, hgr⟩ := hrel
          by_cases hlt : q < n + m
          · by_cases hqn : q < n
            · obtain ⟨ba, bb, kd, nu, T, x, rfl, rfl, a0, a1, a2, a3, b0, b1, b2, b3⟩ := HX.out q hqn
              replace a0 := hgr.cell a0
              replace a1 := hgr.cell a1
              replace a2 := hgr.cell a2
              replace a3 := hgr.cell a3
              replace b0 := hgr.cell b0
              replace b1 := hgr.cell b1
              replace b2 := hgr.cell b2
              replace b3 := hgr.cell b3
              have k0 : (0 : Int) ≤ (q : Int) := by omega
              have k1 : (q : Int) < (n : Int) + (m : Int) := by omega
              have k2 : (q : Int) < (n : Int) := by omega
              have k3 : ((n + m : Nat) : Int) = (n : Int) + (m : Int) := by omega
              have k4 : decide ((q : Int) < (n : Int)) = true := by simp; omega
              go_wp2_with fail
              go_quiet (fail)
              go_wp2_with fail
              go_roundw
              case rel => exact ⟨q + 1, by omega, by go_num, Grow.drewNR hgr _⟩
              case measure => simp [intOf]; omega
            · obtain ⟨j, hqe⟩ : ∃ j, n + j = q := ⟨q - n, by omega⟩
              obtain ⟨ba, bb, kd, nu, T, x, rfl, rfl, x0, x1, a0, a1, a2, a3, b0, b1, b2, b3⟩ := HY.out j (by omega)
              rw [hqe] at b0 b1 b2 b3
              replace a0 := hgr.cell a0
              replace a1 := hgr.cell a1
              replace a2 := hgr.cell a2
              replace a3 := hgr.cell a3
              replace b0 := hgr.cell b0
              replace b1 := hgr.cell b1
              replace b2 := hgr.cell b2
              replace b3 := hgr.cell b3
              have hB := World.block_lt_of_cell? wr _ b0
              have hA := World.block_lt_of_cell? wr _ a0
              simp only at hA hB
              have k0 : (0 : Int) ≤ (q : Int) := by omega
              have k1 : (q : Int) < (n : Int) + (m : Int) := by omega
              have k2 : (n : Int) ≤ (q : Int) := by omega
              have k3 : ((n + m : Nat) : Int) = (n : Int) + (m : Int) := by omega
              have k4 : decide ((q : Int) < (n : Int)) = false := by simp; omega
              have k9 : decide (q < n) = false := by simp; omega
              have k6 : (q : Int) - (n : Int) = (j : Int) := by omega
              have k7 : (j : Int) < (m : Int) := by omega
              have k8 : (0 : Int) ≤ (j : Int) := by omega
              clear hqe hqn hB hA
              go_wp2_with fail
              go_quiet (fail)
              rename_i nq
              replace hgr := Grow.drewNR hgr nq
              replace a0 : (wr.drewN nq).cell? ⟨ba, j * 4, none⟩ = _ := a0
              replace a1 : (wr.drewN nq).cell? ⟨ba, j * 4 + 1, none⟩ = _ := a1
              replace a2 : (wr.drewN nq).cell? ⟨ba, j * 4 + 2, none⟩ = _ := a2
              replace a3 : (wr.drewN nq).cell? ⟨ba, j * 4 + 3, none⟩ = _ := a3
              replace b0 : (wr.drewN nq).cell? ⟨bb, q * 4, none⟩ = _ := b0
              replace b1 : (wr.drewN nq).cell? ⟨bb, q * 4 + 1, none⟩ = _ := b1
              replace b2 : (wr.drewN nq).cell? ⟨bb, q * 4 + 2, none⟩ = _ := b2
              replace b3 : (wr.drewN nq).cell? ⟨bb, q * 4 + 3, none⟩ = _ := b3
              generalize wr.drewN nq = wy at *
              have hB := World.block_lt_of_cell? wy _ b0
              have hA := World.block_lt_of_cell? wy _ a0
              simp only at hA hB
              go_wp2_with fail
              go_quiet (fail)
              go_wp2_with fail
              go_roundw
              case rel => exact ⟨q + 1, by omega, by go_num, by repeat' (first | exact hgr | refine Grow.drewNR ?_ _ | refine Grow.drewR ?_ | refine Grow.set ?_ _ _ (by first | exact hgr.size | (simp; exact hgr.size)) _ | refine Below.alloc ?_ (by first | exact hgr.size | (simp; exact hgr.size)) _)⟩
              case measure => simp [intOf]; omega
          · obtain rfl : q = n + m := by omega
            clear HX HY
            go_wp2_with fail
            refine (awake_c _).mono ?_
            rintro e w5 ⟨rfl, b5⟩
            go_wp2_with fail
            go_ret
            exact ⟨rfl, Grow.trans hgw (Grow.trans hgr b5)⟩
      · have eR : Sc.cons X (Sc.shift (a.size + 1) ⟨Y, stop2, err2⟩) = ⟨[], a.size + 1 + stop2, err2⟩ := by rw [Nat.add_comm (a.size + 1) stop2]; exact if_neg he2
        simp only [eR] at C3
        replace C2 := hid C2
        replace C3 := hid C3
        clear eR hla hlb
        have hne : ((err2 : Int) != 0) = true := by rw [bne_iff_ne]; omega
        clear he2
        go_enter Try.func6, Try.ntmps6
        go_wp2_with fail
        refine (C1.out _).mono ?_
        rintro e w1 ⟨v1, rfl, ⟨p1, cap1, rfl, hn1, hc1⟩, g1⟩
        go_wp2_with fail
        refine (C2.out _).mono ?_
        rintro e w2 ⟨v2, rfl, ⟨p2, cap2, rfl, hn2, hc2⟩, g2⟩
        go_wp2_with fail
        refine (C3.out _).mono ?_
        rintro e w3 ⟨v3, rfl, ⟨p3, cap3, rfl, hn3, hc3⟩, g3⟩
        clear hc1 hc2 hc3
        go_wp2_with fail
        refine (awake_c _).mono ?_
        rintro e w5 ⟨rfl, b5⟩
        go_wp2_with fail
        go_ret
        exact ⟨rfl, Grow.trans g1 (Grow.trans g2 (Grow.trans g3 b5))⟩
  · generalize scan a.data.toList = R at *
    obtain ⟨toks, stop, err⟩ := R
    simp only at *
    have hne : (((err : Nat) : Int) != 0) = true := by rw [bne_iff_ne]; omega
    clear he
    go_enter Try.func6, Try.ntmps6
    go_wp2_with fail
    refine (C1.out _).mono ?_
    rintro e w1 ⟨v1, rfl, i1, b1⟩
    go_wp2_with fail
    refine (awake_c _).mono ?_
    rintro e w5 ⟨rfl, b5⟩
    go_wp2_with fail
    go_ret
    exact ⟨rfl, Grow.trans b1 b5⟩
namespace LawLexBegins
open Go.ChangeShapes Go.WideShapes Go.ChangeAt Go.RowKit
open Go.ChangeMaps (open_string shut_string)
theorem own : ownKnob Try.prog.godebug = none := by kernel_rfl
theorem laidOut : laidOutB Try.prog = true := by kernel_rfl
set_option maxRecDepth 100000 in
theorem lifted (os : Os) (started : os.Started) (H : Type) (enc : TypeId × Value → H) :
    ReturnsInHanded {} Try.checked os 6 .any (Rows.lexBeginsSpec.pre6 enc Try.prog Try.f6 Rows.lexBeginsRow.domain false) (Rows.lexBeginsSpec.post enc Try.prog Try.f6 false true false false) := by
  refine returnsInHanded_of_change_sized (C := Try.checked) own started (by kernel_rfl) Try.func6
    (ChangeSpec.witness6 (enc := enc) (C := Try.checked) false ⟨#[], #[.string ByteArray.empty, .string ByteArray.empty], []⟩ 8 (by kernel_rfl) (by kernel_rfl) (by kernel_rfl) (by kernel_rfl)) ?_
  intro W base args ds gs before hval0 hW hcnd hsz _
  have hval : ∀ (j : Nat) t v, Try.f6.params[j]? = some t → args[j]? = some v → Value.okWide Try.prog W .any base t v := hval0
  have hW' := hW
  obtain ⟨p, q, hA0, hV, rfl, hfz, hnd⟩ := hW
  have hA : DataW.TrodAll enc Try.prog W 0 (fun _ => true) true Try.f6.params.toList args.toList ds p := hA0
  rw [Try.params6] at hA hval hsz
  obtain ⟨v0, vs0, d0, ds0, p0, q0, hargs, rfl, rfl, h0, r0⟩ := trodAll_cons hA
  obtain ⟨v1, vs1, d1, ds1, p1, q1, rfl, rfl, rfl, h1, r1⟩ := trodAll_cons r0
  obtain ⟨rfl, rfl, rfl⟩ := trodAll_nil r1
  obtain rfl : args = #[v0, v1] := by cases args; simp_all
  obtain ⟨rfl, rfl⟩ := trodVars_none hV
  obtain ⟨a0, rfl, rfl, rfl, w0⟩ := open_string Try.underlying9 (hval 0 9 v0 rfl rfl) h0
  have z0 : a0.size ≤ 140737488351232 := by
    have h := sized_string hsz (j := 0) (t := 9) (bytes := a0.data.toList) rfl rfl
    simpa [reachBytes] using h
  obtain ⟨a1, rfl, rfl, rfl, w1⟩ := open_string Try.underlying9 (hval 1 9 v1 rfl rfl) h1
  have z1 : a1.size ≤ 140737488351232 := by
    have h := sized_string hsz (j := 1) (t := 9) (bytes := a1.data.toList) rfl rfl
    simpa [reachBytes] using h
  clear hA0 hval0
  refine (Begins_walk a0 a1 W z0 z1).mono fun e W' ⟨he, bel⟩ => ?_
  subst he
  exact ⟨_, rfl, _, _, _, [], _, [], hW', trodAll_mk1 (shut_bool Try.underlying4 _), (trodAll_cons_mk (shut_string Try.underlying9 w0) (trodAll_cons_mk (shut_string Try.underlying9 w1) trodAll_mk0)), rfl, bel.frame _, fun h => by cases h⟩
theorem over : Rows.lexBeginsRow.holds Try.pinned (OpenSpec.ofChange Rows.lexBeginsSpec) :=
  OpenClaim.holds_of_wide 6 Try.f6 rfl rfl rfl rfl rfl rfl rfl ⟨rfl, rfl, rfl, rfl, rfl⟩ rfl rfl rfl rfl rfl (by kernel_rfl) Try.func6 (by kernel_rfl)
    (of_decide_eq_true (by kernel_rfl)) (by unfold Func.isWrapper; first | (rw [if_pos (by decide +kernel)]; kernel_rfl) | (rw [if_neg (by decide +kernel)]; exact ⟨rfl, rfl⟩))
    (fun os started H enc _ => lifted os started H enc)
end LawLexBegins
/-- The given statement. -/
theorem lexBegins_proved : Rows.LexBeginsSaid := LawLexBegins.over
#print axioms lexBegins_proved
end Go.Proofs.Ythijancigoedgaa
