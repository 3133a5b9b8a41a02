/- A text with one byte otherwise has another sum. -/
import Derived.Test.YtjcanclmmgfhiaaBitsAwake
namespace Go.Proofs.Ytjcanclmmgfhiaa
open Go.RowKit
set_option linter.unusedVariables false

/-- The text with byte b at place k. -/
def putByte (s : ByteArray) (k : Nat) (b : UInt8) : ByteArray := s.extract 0 k ++ ByteArray.mk [b].toArray ++ s.extract (k + 1) s.size
theorem putByte_list (s : ByteArray) (k : Nat) (b : UInt8) : (putByte s k b).data.toList = s.data.toList.take k ++ b :: s.data.toList.drop (k + 1) := by
  have hd : (s.data.toList.drop (k + 1)).take (s.size - (k + 1)) = s.data.toList.drop (k + 1) := List.take_of_length_le (by simp)
  simp [putByte, ByteArray.data_append, ByteArray.data_extract, hd]
theorem putByte_size (s : ByteArray) (k : Nat) (b : UInt8) (h : k < s.size) : (putByte s k b).size = s.size := by
  rw [← ByteArray.size_data, ← Array.length_toList, putByte_list]
  have : s.data.toList.length = s.size := by simp
  simp only [List.length_append, List.length_take, List.length_cons, List.length_drop, this]
  omega
theorem apart_eq (s : ByteArray) (k : Nat) (b : UInt8) (h : k < s.size) : (sumV s.data.toList == sumV (putByte s k b).data.toList) = (((s[k]).toNat : Int) == (b.toNat : Int)) := by
  have hl : k < s.data.toList.length := by simpa using h
  have e : s.data.toList = s.data.toList.take k ++ s[k] :: s.data.toList.drop (k + 1) := by
    conv => lhs; rw [← List.take_append_drop k s.data.toList]
    rw [List.drop_eq_getElem_cons hl]
    rfl
  rw [putByte_list, Bool.eq_iff_iff, beq_iff_eq, beq_iff_eq]
  constructor
  · intro hh
    rw [e] at hh
    have hb := sumV_apart (s.data.toList.take k) (s.data.toList.drop (k + 1)) s[k] b (by
      have t1 : (s.data.toList.take k ++ s[k] :: s.data.toList.drop (k + 1)).take k = s.data.toList.take k := by rw [← e]
      have t2 : (s.data.toList.take k ++ s[k] :: s.data.toList.drop (k + 1)).drop (k + 1) = s.data.toList.drop (k + 1) := by rw [← e]
      rw [t1, t2] at hh
      exact hh)
    rw [hb]
  · intro hh
    have hb : s[k] = b := UInt8.toNat_inj.1 (by omega)
    conv => lhs; rw [e, hb]

theorem byte_of_int (a : Int) (h0 : 0 ≤ a) (h1 : a ≤ 255) : ∃ b : UInt8, a = (b.toNat : Int) := ⟨UInt8.ofNat a.toNat, by simp; omega⟩

set_option maxRecDepth 100000 in
set_option maxHeartbeats 2000000 in
theorem Apart_w (s : ByteArray) (m : Nat) (b : UInt8) (w : World) (hs : s.size ≤ 140737488351232) (hm : m < 18446744073709551616) :
    Calls Try.prog 4 #[.string s, .int .u64 m, .int .u8 (b.toNat : Int)] w fun e w' => e = .returned (.bool true) ∧ Below w.heap.size w w' := by
  by_cases h0 : s.size = 0
  · have hb0 : ((s.size : Int) == 0) = true := by rw [h0]; rfl
    clear h0
    go_enter Try.func4, Try.ntmps4
    go_wp2_with fail
    refine (awake_c _).mono ?_
    rintro e w1 ⟨rfl, b1⟩
    go_wp2_with fail
    go_ret
    exact ⟨rfl, b1⟩
  · have hb0 : ((s.size : Int) == 0) = false := by rw [beq_eq_false_iff_ne]; omega
    have hk : m % s.size < s.size := Nat.mod_lt _ (by omega)
    generalize hK : m % s.size = k at hk
    have hpos : 1 ≤ s.size := by omega
    have HK := hid (show wrap64 ((m : Int) % (s.size : Int)) = (k : Int) by
      rw [← Int.natCast_emod, hK]
      unfold wrap64
      omega)
    clear hK h0
    have hts := putByte_size s k b hk
    have hb := (s[k]).toNat_lt
    have cS := hid (fun w => Sum_c s w (by unfold maxLen; omega))
    have cT := hid (fun w => Sum_c (putByte s k b) w (by rw [hts]; unfold maxLen; omega))
    have HE := hid (apart_eq s k b hk)
    have hes : (s.extract 0 k).size = k := by rw [ByteArray.size_extract]; omega
    have hes2 : (s.extract (k + 1) s.size).size = s.size - (k + 1) := by rw [ByteArray.size_extract]; omega
    have HES := hid hes
    have HES2 := hid hes2
    clear hts hes hes2
    go_enter Try.func4, Try.ntmps4
    go_wp2_with fail
    rw [HK.out]
    refine wp_rely [.eq (.string s), .eq (.int .i64 (k : Int)), .eq (.string (s.extract 0 k)), .eq (.int .u8 (b.toNat : Int)), .row #[.int .u8 (b.toNat : Int)] 5 1, .eq (.string ⟨[b].toArray⟩), .eq (.string (s.extract 0 k ++ ByteArray.mk [b].toArray)), .eq (.string s), .eq (.int .i64 (k : Int)), .eq (.int .i64 ((k : Int) + 1)), .eq (.string (s.extract (k + 1) s.size)), .eq (.string (putByte s k b)), .eq (.string (putByte s k b))] (by kernel_rfl) (by kernel_rfl) (by kernel_rfl) ?_ ?_
    · simp only [relyGoals]
      refine ⟨?_, ?_, ?_, ?_, ?_, ?_, ?_, ?_, ?_, ?_, ?_, ?_, ?_, trivial⟩
      all_goals intro t w' hsz hg hdd hfr
      all_goals simp only [depsDid, Did, perAt, List.getElem?_cons_zero, List.getElem?_cons_succ, List.getD_cons_zero, List.getD_cons_succ, Per.eq, Per.row, and_true, Array.getD_eq_getD_getElem?] at hdd
      all_goals rw [if_pos (by rfl)]
      all_goals simp only [perAt, List.getD_cons_zero, List.getD_cons_succ, Per.eq, Per.row]
      · have h0 := hfr 0 rfl
        simp only [Array.getD_eq_getD_getElem?] at h0
        simp [execOp, Act.eval, h0, relyUpon, Grow.refl]
      · have h0 := hfr 7 rfl
        simp only [Array.getD_eq_getD_getElem?] at h0
        simp [execOp, Act.eval, h0, relyUpon, Grow.refl]
      · have hle : k ≤ s.size := by omega
        simp [execOp, Act.eval, hdd, relyUpon, go_sem, Grow.refl, hle]
      · have h0 := hfr 2 rfl
        simp only [Array.getD_eq_getD_getElem?] at h0
        simp [execOp, Act.eval, h0, relyUpon, Grow.refl]
      · simp [execOp, Act.eval, hdd, relyUpon, go_sem]
        exact ⟨Grow.alloc _ _, heap_newG _ _ _⟩
      · obtain ⟨g, hv, hh⟩ := hdd
        have hc := conv_row1 (P := Try.prog) Try.underlying26 Try.underlying5 Try.underlying9 w' g b hh
        simp [execOp, Act.eval, hv, relyUpon, hc, Grow.refl]
      · have hle : ¬ 9223372036854775807 < min k s.size + 1 := by omega
        simp [execOp, Act.eval, hdd, relyUpon, go_sem, Grow.refl, hle]
      · have h0 := hfr 0 rfl
        simp only [Array.getD_eq_getD_getElem?] at h0
        simp [execOp, Act.eval, h0, relyUpon, Grow.refl]
      · have h0 := hfr 7 rfl
        simp only [Array.getD_eq_getD_getElem?] at h0
        simp [execOp, Act.eval, h0, relyUpon, Grow.refl]
      · have hi := IntWalk.i64_in ((k : Int) + 1) (by omega)
        simp [execOp, Act.eval, hdd, relyUpon, go_sem, Grow.refl, hi]
      · have hle : (0 ≤ (k : Int) + 1 ∧ (k : Int) + 1 ≤ (s.size : Int)) = True := by simp; omega
        simp [execOp, Act.eval, hdd, relyUpon, go_sem, Grow.refl, hle]
      · have hle : ¬ 9223372036854775807 < min k s.size + 1 + (s.size - (k + 1)) := by omega
        simp [execOp, Act.eval, hdd, relyUpon, go_sem, Grow.refl, hle]
        rfl
      · simp [execOp, Act.eval, hdd, relyUpon, Grow.refl]
    · intro w1 hg1
      simp only [relyEnd, List.headD_cons, List.tail_cons, Per.eq, Per.row]
      rintro _ rfl _ rfl _ rfl _ rfl _ ⟨g, rfl, hh⟩ _ rfl _ rfl _ rfl _ rfl _ rfl _ rfl _ rfl _ rfl
      clear hh
      go_simp
      go_wp2_with fail
      have hA := hid (fun w => awake_c w)
      refine wp_rely [.eq (.string s), .eq (.int .i64 (k : Int)), .eq (.int .u8 ((s[k]).toNat : Int)), .eq (.int .u8 (b.toNat : Int)), .eq (.bool (((s[k]).toNat : Int) == (b.toNat : Int))), .eq (.string s), .eq (.int .u32 (sumV s.data.toList)), .eq (.string (putByte s k b)), .eq (.int .u32 (sumV (putByte s k b).data.toList)), .eq (.bool (((s[k]).toNat : Int) == (b.toNat : Int))), .eq (.bool true), .eq (.bool true), .eq (.bool true), .eq (.bool true), .eq (.bool true)] (by kernel_rfl) (by kernel_rfl) (by kernel_rfl) ?_ ?_
      · simp only [relyGoals]
        refine ⟨?_, ?_, ?_, ?_, ?_, ?_, ?_, ?_, ?_, ?_, ?_, ?_, ?_, ?_, ?_, trivial⟩
        all_goals intro t w' hsz hg hdd hfr
        all_goals simp only [depsDid, Did, perAt, List.getElem?_cons_zero, List.getElem?_cons_succ, List.getD_cons_zero, List.getD_cons_succ, Per.eq, and_true, Array.getD_eq_getD_getElem?] at hdd
        · rw [if_pos (by rfl)]
          have h0 := hfr 0 rfl
          simp only [Array.getD_eq_getD_getElem?] at h0
          simp [execOp, Act.eval, h0, relyUpon, Grow.refl, perAt, Per.eq]
        · rw [if_pos (by rfl)]
          have h0 := hfr 7 rfl
          simp only [Array.getD_eq_getD_getElem?] at h0
          simp [execOp, Act.eval, h0, relyUpon, Grow.refl, perAt, Per.eq]
        · rw [if_pos (by rfl)]
          simp [execOp, Act.eval, hdd, relyUpon, go_sem, Grow.refl, perAt, Per.eq, hk]
        · rw [if_pos (by rfl)]
          have h0 := hfr 2 rfl
          simp only [Array.getD_eq_getD_getElem?] at h0
          simp [execOp, Act.eval, h0, relyUpon, Grow.refl, perAt, Per.eq]
        · rw [if_pos (by rfl)]
          simp [execOp, Act.eval, hdd, relyUpon, go_sem, Grow.refl, perAt, Per.eq]
        · rw [if_pos (by rfl)]
          have h0 := hfr 0 rfl
          simp only [Array.getD_eq_getD_getElem?] at h0
          simp [execOp, Act.eval, h0, relyUpon, Grow.refl, perAt, Per.eq]
        · rw [if_pos (by rfl)]
          simp [Act.eval, hdd, relyUpon, go_sem, perAt, Per.eq]
          exact (cS.out w').mono fun e w'' ⟨h1, h2⟩ => ⟨h1, h2 ▸ Grow.refl _⟩
        · rw [if_pos (by rfl)]
          have h0 := hfr 8 rfl
          simp only [Array.getD_eq_getD_getElem?] at h0
          simp [execOp, Act.eval, h0, relyUpon, Grow.refl, perAt, Per.eq]
        · rw [if_pos (by rfl)]
          simp [Act.eval, hdd, relyUpon, go_sem, perAt, Per.eq]
          exact (cT.out w').mono fun e w'' ⟨h1, h2⟩ => ⟨h1, h2 ▸ Grow.refl _⟩
        · rw [if_pos (by rfl)]
          have hE := HE.out
          simp [execOp, Act.eval, hdd, relyUpon, go_sem, Grow.refl, perAt, Per.eq, hE]
        · rw [if_pos (by rfl)]
          simp [execOp, Act.eval, hdd, relyUpon, go_sem, Grow.refl, perAt, Per.eq]
        · rw [if_pos (by rfl)]
          simp [execOp, Act.eval, hdd, relyUpon, Grow.refl, perAt, Per.eq]
        · rw [if_pos (by simp only [Region.wanted]; rw [yielded_of (d := 42) rfl hdd.1]; rfl)]
          simp [relyUpon, go_sem, perAt, Per.eq]
          exact (hA.out w').mono fun e w'' ⟨h1, h2⟩ => ⟨h1, h2⟩
        · rw [if_pos (by rfl)]
          simp [execOp, Act.eval, hdd, relyUpon, go_sem, Grow.refl, perAt, Per.eq]
        · rw [if_pos (by rfl)]
          simp [execOp, Act.eval, hdd, relyUpon, Grow.refl, perAt, Per.eq]
      · intro w2 hg2
        simp only [relyEnd, List.headD_cons, List.tail_cons, Per.eq]
        rintro _ rfl _ rfl _ rfl _ rfl _ rfl _ rfl _ rfl _ rfl _ rfl _ rfl _ rfl _ rfl _ rfl _ rfl _ rfl
        clear HE cS cT hA
        go_simp
        go_wp2_with fail
        go_ret
        exact ⟨rfl, Grow.trans hg1 hg2⟩
theorem Apart_walk (a0 : ByteArray) (a1 a2 : Int) (w : World) (l0 : a0.size ≤ 140737488351232) (l1 : 0 ≤ a1) (u1 : a1 ≤ 18446744073709551615) (l2 : 0 ≤ a2) (u2 : a2 ≤ 255) :
    Calls Try.prog 4 #[.string a0, .int .u64 a1, .int .u8 a2] w fun e w' => e = .returned (.bool true) ∧ Below w.heap.size w w' := by
  obtain ⟨m, rfl⟩ := Int.eq_ofNat_of_zero_le l1
  obtain ⟨b, rfl⟩ := byte_of_int a2 l2 u2
  exact Apart_w a0 m b w l0 (by omega)
namespace LawBitsApart
open Go.ChangeShapes Go.WideShapes Go.ChangeAt Go.RowKit
open Go.ChangeMaps (open_string shut_string)
theorem own : ownKnob Try.prog.godebug = none := by kernel_rfl
theorem laidOut : laidOutB Try.prog = true := by kernel_rfl
set_option maxRecDepth 100000 in
theorem lifted (os : Os) (started : os.Started) (H : Type) (enc : TypeId × Value → H) :
    ReturnsInHanded {} Try.checked os 4 .any (Rows.bitsApartSpec.pre6 enc Try.prog Try.f4 Rows.bitsApartRow.domain false) (Rows.bitsApartSpec.post enc Try.prog Try.f4 false true false false) := by
  refine returnsInHanded_of_change_sized (C := Try.checked) own started (by kernel_rfl) Try.func4
    (ChangeSpec.witness6 (enc := enc) (C := Try.checked) false ⟨#[], #[.string ByteArray.empty, .int .u64 0, .int .u8 0], []⟩ 8 (by kernel_rfl) (by kernel_rfl) (by kernel_rfl) (by kernel_rfl)) ?_
  intro W base args ds gs before hval0 hW hcnd hsz _
  have hval : ∀ (j : Nat) t v, Try.f4.params[j]? = some t → args[j]? = some v → Value.okWide Try.prog W .any base t v := hval0
  have hW' := hW
  obtain ⟨p, q, hA0, hV, rfl, hfz, hnd⟩ := hW
  have hA : DataW.TrodAll enc Try.prog W 0 (fun _ => true) true Try.f4.params.toList args.toList ds p := hA0
  rw [Try.params4] at hA hval hsz
  obtain ⟨v0, vs0, d0, ds0, p0, q0, hargs, rfl, rfl, h0, r0⟩ := trodAll_cons hA
  obtain ⟨v1, vs1, d1, ds1, p1, q1, rfl, rfl, rfl, h1, r1⟩ := trodAll_cons r0
  obtain ⟨v2, vs2, d2, ds2, p2, q2, rfl, rfl, rfl, h2, r2⟩ := trodAll_cons r1
  obtain ⟨rfl, rfl, rfl⟩ := trodAll_nil r2
  obtain rfl : args = #[v0, v1, v2] := by cases args; simp_all
  obtain ⟨rfl, rfl⟩ := trodVars_none hV
  obtain ⟨a0, rfl, rfl, rfl, w0⟩ := open_string Try.underlying9 (hval 0 9 v0 rfl rfl) h0
  have z0 : a0.size ≤ 140737488351232 := by
    have h := sized_string hsz (j := 0) (t := 9) (bytes := a0.data.toList) rfl rfl
    simpa [reachBytes] using h
  obtain ⟨a1, rfl, rfl, rfl, w1⟩ := open_int Try.underlying25 (hval 1 25 v1 rfl rfl) h1
  have b1 := wf_u64 w1
  obtain ⟨a2, rfl, rfl, rfl, w2⟩ := open_int Try.underlying5 (hval 2 5 v2 rfl rfl) h2
  have b2 := wf_u8 w2
  clear hA0 hval0
  refine (Apart_walk a0 a1 a2 W z0 b1.1 b1.2 b2.1 b2.2).mono fun e W' ⟨he, bel⟩ => ?_
  subst he
  exact ⟨_, rfl, _, _, _, [], _, [], hW', trodAll_mk1 (shut_bool Try.underlying4 _), (trodAll_cons_mk (shut_string Try.underlying9 w0) (trodAll_cons_mk (shut_int Try.underlying25 w1) (trodAll_cons_mk (shut_int Try.underlying5 w2) trodAll_mk0))), rfl, bel.frame _, fun h => by cases h⟩
theorem over : Rows.bitsApartRow.holds Try.pinned (OpenSpec.ofChange Rows.bitsApartSpec) :=
  OpenClaim.holds_of_wide 4 Try.f4 rfl rfl rfl rfl rfl rfl rfl ⟨rfl, rfl, rfl, rfl, rfl⟩ rfl rfl rfl rfl rfl (by kernel_rfl) Try.func4 (by kernel_rfl)
    (of_decide_eq_true (by kernel_rfl)) (by unfold Func.isWrapper; first | (rw [if_pos (by decide +kernel)]; kernel_rfl) | (rw [if_neg (by decide +kernel)]; exact ⟨rfl, rfl⟩))
    (fun os started H enc _ => lifted os started H enc)
end LawBitsApart
/-- The given statement. -/
theorem bitsApart_proved : Rows.BitsApartSaid := LawBitsApart.over
#print axioms bitsApart_proved
end Go.Proofs.Ytjcanclmmgfhiaa
