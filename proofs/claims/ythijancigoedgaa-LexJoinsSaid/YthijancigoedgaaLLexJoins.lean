/- The signs' texts, with a blank between, are cut into the same signs, for every text. -/
import Derived.Test.YthijancigoedgaaLexAwake
import Derived.Test.YthijancigoedgaaLexMore
namespace Go.Proofs.Ythijancigoedgaa
open Go.RowKit
set_option linter.unusedVariables false
set_option linter.unusedSimpArgs false

theorem joinL_take (l : List Tok) (k : Nat) (h : k < l.length) : joinL (l.take (k + 1)) = if k = 0 then l[k].text else joinL (l.take k) ++ 32 :: l[k].text := by
  rw [List.take_succ_eq_append_getElem h, joinL_snoc]
  by_cases hk : k = 0
  · subst hk; simp
  · rw [if_neg hk, if_neg]
    intro hh
    have := congrArg List.length hh
    rw [List.length_take] at this
    simp only [List.length_nil] at this
    omega
theorem joinL_len (l : List Tok) (hb : ∀ t ∈ l, t.text.length ≤ 4096) : ∀ k, k ≤ l.length → (joinL (l.take k)).length ≤ k * 4097
  | 0, _ => by simp [joinL]
  | k + 1, h => by
    have := joinL_len l hb k (by omega)
    have h2 := hb l[k] (List.getElem_mem _)
    rw [joinL_take l k (by omega)]
    split
    · omega
    · simp only [List.length_append, List.length_cons]; omega
theorem bytes_add (a b : List UInt8) : (⟨a.toArray⟩ : ByteArray) ++ ⟨b.toArray⟩ = ⟨(a ++ b).toArray⟩ := by
  apply ByteArray.ext
  simp [ByteArray.data_append]
theorem bytes_size (a : List UInt8) : (⟨a.toArray⟩ : ByteArray).size = a.length := by simp [ByteArray.size]
set_option maxRecDepth 100000 in
set_option maxHeartbeats 1000000 in
theorem Joined_c (l : List Tok) (v : Value) (w : World) (ht : Toks w v l) (hb : ∀ t ∈ l, t.text.length ≤ 4096) : Calls Try.prog 12 #[v] w fun e w' => e = .returned (.string ⟨(joinL l).toArray⟩) ∧ w = w' := by
  obtain ⟨pa, ca, rfl, hn, hc⟩ := ht
  have hJ := joinL_len l hb
  have HX := hid (show ∀ k, k < l.length → ∃ (ba : Nat) (t : List UInt8), pa = some ⟨ba, 0, none⟩ ∧ w.cell? ⟨ba, k * 4 + 1, none⟩ = some (.string ⟨t.toArray⟩) ∧ t.length ≤ 4096 ∧ joinL (l.take (k + 1)) = (if k = 0 then t else joinL (l.take k) ++ 32 :: t) from by
    intro k hk
    obtain ⟨ba, e1, A⟩ := hc (by omega)
    exact ⟨ba, _, e1, (A k hk).2.1, hb _ (List.getElem_mem _), joinL_take l k hk⟩)
  have HT : joinL l = joinL (l.take l.length) := by rw [List.take_length]
  rw [HT]
  clear HT hc hb
  generalize l.length = n at *
  generalize hF : (fun k => joinL (l.take k)) = F
  have hFk : ∀ k, joinL (l.take k) = F k := fun k => by rw [← hF]
  have F0 : F 0 = [] := by rw [← hF]; rfl
  simp only [hFk] at HX hJ ⊢
  clear hFk hF
  have F0 := hid F0
  go_enter Try.func12, Try.ntmps12
  go_wp2_with fail
  go_loop [3, 4] (fun s i => ∃ k : Nat, ∃ T : ByteArray, k ≤ n ∧ i = .int .i64 k ∧ s = .string T ∧ Hid (T = ⟨(F k).toArray⟩)) (fun _ i => n - (intOf i).toNat)
  case atStart => exact ⟨0, _, by omega, rfl, rfl, hid (by rw [F0.out])⟩
  case round =>
    obtain ⟨k, T, hk, rfl, rfl, HT⟩ := hrel
    by_cases hlt : k < n
    · obtain ⟨ba, t, rfl, a1, ht, he⟩ := HX.out k hlt
      have hTs : T.size ≤ 16781312 := by rw [HT.out, bytes_size]; have := hJ k hk; have : k * 4097 ≤ 4096 * 4097 := Nat.mul_le_mul_right _ (by omega); omega
      have hts : (⟨t.toArray⟩ : ByteArray).size ≤ 4096 := by rw [bytes_size]; exact ht
      have hk1 : (k : Int) < (n : Int) := by omega
      by_cases hk0 : k = 0
      · have HN := hid (show T ++ (⟨t.toArray⟩ : ByteArray) = ⟨(F (k + 1)).toArray⟩ by rw [he, if_pos hk0, HT.out, hk0, F0.out, bytes_add]; rfl)
        have hk0' : ¬ (0 : Int) < (k : Int) := by omega
        clear he hk0 hJ
        generalize (⟨t.toArray⟩ : ByteArray) = U at *
        have hq : ¬ 9223372036854775807 < T.size + U.size := by omega
        go_wp2_with fail
        go_round
        case rel => exact ⟨k + 1, _, by omega, by go_num, rfl, HN⟩
        case measure => simp [intOf]; omega
      · have HN := hid (show (T ++ (⟨#[32]⟩ : ByteArray)) ++ (⟨t.toArray⟩ : ByteArray) = ⟨(F (k + 1)).toArray⟩ by rw [he, if_neg hk0, HT.out, show (⟨#[32]⟩ : ByteArray) = ⟨[32].toArray⟩ from rfl, bytes_add, bytes_add, List.append_assoc]; rfl)
        have hk0' : (0 : Int) < (k : Int) := by omega
        clear he hk0 hJ
        generalize (⟨t.toArray⟩ : ByteArray) = U at *
        have hs1 : (T ++ (⟨#[32]⟩ : ByteArray)).size = T.size + 1 := by rw [ByteArray.size_append']; rfl
        have hq : ¬ 9223372036854775807 < T.size + 1 := by omega
        have hq2 : ¬ 9223372036854775807 < T.size + 1 + U.size := by omega
        go_wp2_with fail
        go_round
        case rel => exact ⟨k + 1, _, by omega, by go_num, rfl, HN⟩
        case measure => simp [intOf]; omega
    · obtain rfl : k = n := by omega
      go_wp2_with fail
      go_ret
      exact ⟨by rw [← HT.out]; rfl, rfl⟩
theorem scan_ok {L : List UInt8} (h : (scan L).err = 0) : L.length ≤ 4096 ∧ scan L = scanL L 0 := by
  unfold scan at h ⊢
  split at h
  · simp at h
  · rename_i hl; rw [if_neg hl]; exact ⟨by omega, rfl⟩
theorem placed_text {S : List UInt8} : ∀ (l : List Tok) (i : Nat), Placed S i l → ∀ t ∈ l, t.text.length ≤ S.length
  | [], _, _, t, h => by cases h
  | a :: l, i, h, t, ht => by
    rcases List.mem_cons.1 ht with rfl | ht
    · have := h.2.2.1; omega
    · exact placed_text l _ h.2.2.2.2 t ht
theorem placed_count {S : List UInt8} : ∀ (l : List Tok) (i : Nat), Placed S i l → i ≤ S.length → i + l.length ≤ S.length
  | [], _, _, h => by simpa using h
  | a :: l, i, h, hi => by
    obtain ⟨h0, h1, h2, h3, h4⟩ := h
    have hl : 0 < a.text.length := List.length_pos_iff.2 h1
    have := placed_count l _ h4 h2
    simp only [List.length_cons]
    omega
set_option maxRecDepth 100000 in
set_option maxHeartbeats 1000000 in
theorem Joins_walk (s : ByteArray) (w : World) (hs : s.size ≤ 140737488351232) :
    Calls Try.prog 4 #[.string s] w fun e w' => e = .returned (.bool true) ∧ Below w.heap.size w w' := by
  have c1 := hid (fun w => RScan_any s w hs)
  by_cases he : (scan s.data.toList).err = 0
  · obtain ⟨hl, hsc⟩ := scan_ok he
    have hgood : ∀ t ∈ (scan s.data.toList).toks, Good t := by rw [hsc]; exact scanL_good _ _
    have hpl : ∀ t ∈ (scan s.data.toList).toks, t.text.length ≤ 4096 := by
      rw [hsc]
      intro t ht
      have := placed_text _ 0 (scanL_placed s.data.toList s.data.toList.length 0 (by omega)) t (by simpa using ht)
      omega
    have hn : (scan s.data.toList).toks.length ≤ 4096 := by
      rw [hsc]
      have := placed_count _ 0 (scanL_placed s.data.toList s.data.toList.length 0 (by omega)) (by omega)
      rw [List.drop_zero] at this
      omega
    have hj := scanL_joins (scan s.data.toList).toks 0 hgood
    generalize hR : scan s.data.toList = R at *
    have hlen : (joinL R.toks).length ≤ R.toks.length * 4097 := by
      have := joinL_len R.toks hpl R.toks.length (Nat.le_refl _)
      rwa [List.take_length] at this
    have c2 := hid (fun v w h => Joined_c R.toks v w h hpl)
    have HE := hid he
    have HJ := hid hj
    have HG := hid hgood
    clear hl hsc hgood hpl he hj hR
    obtain ⟨toks, stop, err⟩ := R
    simp only at *
    obtain rfl : err = 0 := HE.out
    have hJs : (⟨(joinL toks).toArray⟩ : ByteArray).size ≤ 140737488351232 := by rw [bytes_size]; have : toks.length * 4097 ≤ 4096 * 4097 := Nat.mul_le_mul_right _ hn; omega
    by_cases hbig : 4096 < (joinL toks).length
    · have hT : 4096 < (⟨(joinL toks).toArray⟩ : ByteArray).size := by rw [bytes_size]; exact hbig
      generalize (⟨(joinL toks).toArray⟩ : ByteArray) = T at *
      go_enter Try.func4, Try.ntmps4
      go_wp2_with fail
      refine (c1.out _).mono ?_
      rintro e w1 ⟨v1, rfl, i1, b1⟩
      go_wp2_with fail
      refine (c2.out _ _ i1).mono ?_
      rintro e w2 ⟨rfl, rfl⟩
      go_wp2_with fail
      refine (awake_c _).mono ?_
      rintro e w5 ⟨rfl, b5⟩
      go_wp2_with fail
      go_ret
      exact ⟨rfl, Grow.trans b1 b5⟩
    · have hT : (⟨(joinL toks).toArray⟩ : ByteArray).size ≤ 4096 := by rw [bytes_size]; omega
      have c3 := fun w => Scan_any ⟨(joinL toks).toArray⟩ w hJs
      have e3 : scan (joinL toks) = ⟨joinP 0 toks, (joinL toks).length, 0⟩ := by unfold scan; rw [if_neg hbig, HJ.out, Nat.zero_add]
      have e4 : (joinL toks).length = (⟨(joinL toks).toArray⟩ : ByteArray).size := (bytes_size _).symm
      simp only at c3
      rw [e3, e4] at c3
      have c3 := hid c3
      have c4 := hid (fun va vb w (ha : Toks w va (joinP 0 toks)) (hb : Toks w vb toks) => same_c _ _ va vb false w ha hb (joinP_length _ _) (fun i h h' => ⟨(joinP_at toks 0 i h h').1, (joinP_at toks 0 i h h').2.1, (joinP_at toks 0 i h h').2.2, fun q => by cases q⟩))
      clear e3 e4 hbig hlen HJ HG hJs
      generalize (⟨(joinL toks).toArray⟩ : ByteArray) = T at *
      generalize joinP 0 toks = toks' at *
      go_enter Try.func4, Try.ntmps4
      go_wp2_with fail
      refine (c1.out _).mono ?_
      rintro e w1 ⟨v1, rfl, i1, b1⟩
      have I1 := hid i1
      go_wp2_with fail
      refine (c2.out _ _ i1).mono ?_
      rintro e w2 ⟨rfl, rfl⟩
      clear i1
      go_wp2_with fail
      refine (c3.out _).mono ?_
      rintro e w3 ⟨v3, rfl, i3, b3⟩
      have I3 := hid i3
      clear i3
      go_wp2_with fail
      refine (c4.out _ _ _ I3.out (I1.out.grow b3)).mono ?_
      rintro e w4 ⟨rfl, b4⟩
      go_wp2_with fail
      refine (awake_c _).mono ?_
      rintro e w5 ⟨rfl, b5⟩
      go_wp2_with fail
      go_ret
      exact ⟨rfl, Grow.trans b1 (Grow.trans b3 (Grow.trans b4 b5))⟩
  · generalize scan s.data.toList = R at *
    obtain ⟨toks, stop, err⟩ := R
    simp only at *
    have hne : (((err : Nat) : Int) != 0) = true := by rw [bne_iff_ne]; omega
    clear he
    go_enter Try.func4, Try.ntmps4
    go_wp2_with fail
    refine (c1.out _).mono ?_
    rintro e w1 ⟨v1, rfl, i1, b1⟩
    go_wp2_with fail
    refine (awake_c _).mono ?_
    rintro e w5 ⟨rfl, b5⟩
    go_wp2_with fail
    go_ret
    exact ⟨rfl, Grow.trans b1 b5⟩
namespace LawLexJoins
open Go.ChangeShapes Go.WideShapes Go.ChangeAt Go.RowKit
open Go.ChangeMaps (open_string shut_string)
theorem own : ownKnob Try.prog.godebug = none := by kernel_rfl
theorem laidOut : laidOutB Try.prog = true := by kernel_rfl
set_option maxRecDepth 100000 in
theorem lifted (os : Os) (started : os.Started) (H : Type) (enc : TypeId × Value → H) :
    ReturnsInHanded {} Try.checked os 4 .any (Rows.lexJoinsSpec.pre6 enc Try.prog Try.f4 Rows.lexJoinsRow.domain false) (Rows.lexJoinsSpec.post enc Try.prog Try.f4 false true false false) := by
  refine returnsInHanded_of_change_sized (C := Try.checked) own started (by kernel_rfl) Try.func4
    (ChangeSpec.witness6 (enc := enc) (C := Try.checked) false ⟨#[], #[.string ByteArray.empty], []⟩ 8 (by kernel_rfl) (by kernel_rfl) (by kernel_rfl) (by kernel_rfl)) ?_
  intro W base args ds gs before hval0 hW hcnd hsz _
  have hval : ∀ (j : Nat) t v, Try.f4.params[j]? = some t → args[j]? = some v → Value.okWide Try.prog W .any base t v := hval0
  have hW' := hW
  obtain ⟨p, q, hA0, hV, rfl, hfz, hnd⟩ := hW
  have hA : DataW.TrodAll enc Try.prog W 0 (fun _ => true) true Try.f4.params.toList args.toList ds p := hA0
  rw [Try.params4] at hA hval hsz
  obtain ⟨v0, vs0, d0, ds0, p0, q0, hargs, rfl, rfl, h0, r0⟩ := trodAll_cons hA
  obtain ⟨rfl, rfl, rfl⟩ := trodAll_nil r0
  obtain rfl : args = #[v0] := by cases args; simp_all
  obtain ⟨rfl, rfl⟩ := trodVars_none hV
  obtain ⟨a0, rfl, rfl, rfl, w0⟩ := open_string Try.underlying9 (hval 0 9 v0 rfl rfl) h0
  have z0 : a0.size ≤ 140737488351232 := by
    have h := sized_string hsz (j := 0) (t := 9) (bytes := a0.data.toList) rfl rfl
    simpa [reachBytes] using h
  clear hA0 hval0
  refine (Joins_walk a0 W z0).mono fun e W' ⟨he, bel⟩ => ?_
  subst he
  exact ⟨_, rfl, _, _, _, [], _, [], hW', trodAll_mk1 (shut_bool Try.underlying4 _), (trodAll_cons_mk (shut_string Try.underlying9 w0) trodAll_mk0), rfl, bel.frame _, fun h => by cases h⟩
theorem over : Rows.lexJoinsRow.holds Try.pinned (OpenSpec.ofChange Rows.lexJoinsSpec) :=
  OpenClaim.holds_of_wide 4 Try.f4 rfl rfl rfl rfl rfl rfl rfl ⟨rfl, rfl, rfl, rfl, rfl⟩ rfl rfl rfl rfl rfl (by kernel_rfl) Try.func4 (by kernel_rfl)
    (of_decide_eq_true (by kernel_rfl)) (by unfold Func.isWrapper; first | (rw [if_pos (by decide +kernel)]; kernel_rfl) | (rw [if_neg (by decide +kernel)]; exact ⟨rfl, rfl⟩))
    (fun os started H enc _ => lifted os started H enc)
end LawLexJoins
/-- The given statement. -/
theorem lexJoins_proved : Rows.LexJoinsSaid := LawLexJoins.over
#print axioms lexJoins_proved
end Go.Proofs.Ythijancigoedgaa
