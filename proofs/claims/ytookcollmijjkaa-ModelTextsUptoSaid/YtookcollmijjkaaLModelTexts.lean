/- Every state as it is written, and which state every text begins with. -/
import Derived.Test.YtookcollmijjkaaMAwake
import Derived.Test.YtookcollmijjkaaMRState
import Derived.JoinedCond
namespace Go.Proofs.Ytookcollmijjkaa
open Go.RowKit
set_option linter.unusedVariables false
set_option linter.unusedSimpArgs false
set_option maxRecDepth 100000 in
set_option maxHeartbeats 1000000 in
theorem Texts_walk (a : Option Addr) (n c : Nat) (zs : List Int) (s : ByteArray) (w : World) (l0 : IntRow .i64 8 w a n c zs) (hs : s.size ≤ 1048576) :
    Calls Try.prog 7 #[.slice a n c, .string s] w fun e w' => e = .returned (.bool true) ∧ Below w.heap.size w w' := by
  obtain ⟨hi, hr⟩ := Ints.of_row l0
  generalize zs.take n = xs at hi hr
  generalize Value.slice a n c = v at hi
  obtain ⟨u1, u2, u3, u4⟩ := unvarP_bd s.data.toList
  have c1 := hid (fun w' (h : Grow w w') => Text_c xs v w' (hi.grow h) hr)
  have c2 := hid (fun w' (h : Grow w w') => RText_c xs v w' (hi.grow h) hr)
  have c3 := hid (fun w' => State_c s w' (by omega) (by omega))
  have c4 := hid (fun w' => RState_c s w' (by omega))
  generalize stateL s.data.toList = R at *
  obtain ⟨L, N⟩ := R
  have c5 := hid (fun va vb w' (h1 : Ints w' va L) (h2 : Ints w' vb L) => RInts_c L va vb w' h1 h2)
  clear hi hr l0 u1 u2 u3 u4
  generalize textL xs = T at *
  go_enter Try.func7, Try.ntmps7
  go_wp2_with fail
  refine (c3.out _).mono ?_
  rintro e w1 ⟨v1, rfl, i1, b1⟩
  have i1 := hid i1
  go_wp2_with fail
  refine (c4.out _).mono ?_
  rintro e w2 ⟨v2, rfl, i2, b2⟩
  have i2 := hid i2
  have g2 := hid (Grow.trans b1 b2)
  go_wp2_with fail
  refine (c1.out _ g2.out).mono ?_
  rintro e w3 ⟨rfl, b3⟩
  have g3 := hid (Grow.trans g2.out b3)
  go_wp2_with fail
  refine (c2.out _ g3.out).mono ?_
  rintro e w4 ⟨rfl, b4⟩
  have j1 := hid (i1.out.grow (Grow.trans b2 (Grow.trans b3 b4)))
  have j2 := hid (i2.out.grow (Grow.trans b3 b4))
  go_wp2_with fail
  refine (c5.out _ _ _ j1.out j2.out).mono ?_
  rintro e w5 ⟨rfl, b5⟩
  go_wp2_with fail
  refine (awake_c _).mono ?_
  rintro e w6 ⟨rfl, b6⟩
  go_wp2_with fail
  go_ret
  exact ⟨rfl, Grow.trans g3.out (Grow.trans b4 (Grow.trans b5 b6))⟩
namespace LawModelTexts
open Go.ChangeShapes Go.WideShapes Go.ChangeAt Go.RowKit
open Go.ChangeMaps (open_string shut_string)
theorem own : ownKnob Try.prog.godebug = none := by kernel_rfl
theorem laidOut : laidOutB Try.prog = true := by kernel_rfl
theorem bulk_string {H : Type} {bytes : List UInt8} (h : Rows.uptoBulk (DataW.lit (H := H) (.string bytes)) ≤ 1048576) : bytes.length ≤ 1048576 := by
  simp only [Rows.uptoBulk] at h
  omega
theorem bulk_lits {H : Type} (k : IntKind) : ∀ l : List Int, Rows.uptoBulkAll (lits (H := H) k l) = l.length
  | [] => by simp [lits, Rows.uptoBulkAll]
  | x :: l => by
    have := bulk_lits (H := H) k l
    simp only [lits, List.map_cons, Rows.uptoBulkAll, Rows.uptoBulk, List.length_cons] at this ⊢
    omega
theorem bulk_slice {H : Type} {k : IntKind} {a b : List Int} (h : Rows.uptoBulk (DataW.slice (H := H) (lits k a) (lits k b)) ≤ 1048576) : (lits (H := H) k a).length + (lits (H := H) k b).length ≤ 1048576 := by
  simp only [Rows.uptoBulk, bulk_lits] at h
  simp only [lits, List.length_map]
  omega
set_option maxRecDepth 100000 in
theorem lifted (os : Os) (started : os.Started) (H : Type) (enc : TypeId × Value → H) (F0 : Stop.Interp) :
    ReturnsInHanded {} Try.checked os 7 .any ((Rows.OpenSpec.upto Rows.modelTextsSpec).pre6 enc Try.prog Try.f7 Rows.modelTextsUptoRow.domain false) (((Rows.OpenSpec.upto Rows.modelTextsSpec).at F0).post enc Try.prog Try.f7 false true false false) := by
  refine returnsInHanded_of_cond (C := Try.checked) (s := Rows.OpenSpec.upto Rows.modelTextsSpec) (k := Rows.uptoSmall) rfl own started (by kernel_rfl) Try.func7
    (OpenSpec.witness (enc := enc) (C := Try.checked) (s := Rows.OpenSpec.upto Rows.modelTextsSpec) (k := Rows.uptoSmall) rfl false ⟨#[], #[.slice none 0 0, .string ByteArray.empty], []⟩ 8 (by kernel_rfl) (by kernel_rfl) (by kernel_rfl)
      (x := ([.nil, .lit (.string [])], [], [])) (by kernel_rfl) (by kernel_rfl) (by simp [Rows.uptoSmall, Rows.uptoBulkAll, Rows.uptoBulk])) ?_
  intro W base args ds gs before hval0 hW hcnd hk _
  have hval : ∀ (j : Nat) t v, Try.f7.params[j]? = some t → args[j]? = some v → Value.okWide Try.prog W .any base t v := hval0
  have hW' := hW
  obtain ⟨p, q, hA0, hV, rfl, hfz, hnd⟩ := hW
  have hA : DataW.TrodAll enc Try.prog W 0 (fun _ => true) true Try.f7.params.toList args.toList ds p := hA0
  rw [Try.params7] at hA hval
  obtain ⟨v0, vs0, d0, ds0, p0, q0, hargs, rfl, rfl, h0, r0⟩ := trodAll_cons hA
  obtain ⟨v1, vs1, d1, ds1, p1, q1, rfl, rfl, rfl, h1, r1⟩ := trodAll_cons r0
  obtain ⟨rfl, rfl, rfl⟩ := trodAll_nil r1
  obtain rfl : args = #[v0, v1] := by cases args; simp_all
  obtain ⟨rfl, rfl⟩ := trodVars_none hV
  simp only [Rows.uptoSmall, decide_eq_true_eq, List.append_nil, Rows.uptoBulkAll] at hk
  have hk0 : Rows.uptoBulk d0 ≤ 1048576 := by omega
  have hk1 : Rows.uptoBulk d1 ≤ 1048576 := by omega
  clear hk
  obtain ⟨a0, n0, c0, rfl⟩ := okWide_slice Try.underlying22 (hval 0 22 v0 rfl rfl)
  have k0 := h0
  have lt0 : ∀ x ∈ p0, x.block < W.heap.size := by obtain ⟨m, hm⟩ := k0; exact DataW.trod_lt m _ _ _ hm
  obtain ⟨z0, w0⟩ : ∃ zs, IntRow .i64 8 W a0 n0 c0 zs := by
    obtain ⟨fuel, hf⟩ := h0
    rcases open_ints Try.underlying22 Try.underlying3 (by kernel_rfl) hf with ⟨hcs, _⟩ | ⟨x, l, c, zs, hcs, _, hl, hm, hz, hx, hcell, hwz⟩
    · simp [Value.cells] at hcs
      obtain ⟨rfl, rfl, rfl⟩ := hcs
      exact ⟨[], .inl ⟨rfl, rfl, rfl, rfl⟩⟩
    · simp [Value.cells] at hcs
      obtain ⟨rfl, rfl, rfl⟩ := hcs
      simp only [Prod.mk.injEq] at hx
      obtain ⟨rfl, _⟩ := hx
      have hre := bulk_slice hk0
      simp only [lits, List.length_map, List.length_take, List.length_drop] at hre
      have hz' : zs.length = c0 := by simpa using hz
      exact ⟨zs, .inr ⟨_, rfl, hl, hm, hz', hcell, hwz, by rw [← hz']; omega⟩⟩
  obtain ⟨a1, rfl, rfl, rfl, w1⟩ := open_string Try.underlying9 (hval 1 9 v1 rfl rfl) h1
  have z1 : a1.size ≤ 1048576 := by
    have h := bulk_string hk1
    simpa using h
  clear hA0 hval0
  refine (Texts_walk a0 n0 c0 z0 a1 W w0 z1).mono fun e W' ⟨he, bel⟩ => ?_
  subst he
  exact ⟨_, rfl, _, _, _, [], _, [], hW', trodAll_mk1 (shut_bool Try.underlying4 _), (trodAll_cons_mk (Below.trod laidOut (by kernel_rfl) (of_decide_eq_true (by kernel_rfl)) k0 bel lt0) (trodAll_cons_mk (shut_string Try.underlying9 w1) trodAll_mk0)), rfl, bel.frame _, fun h => by cases h⟩
theorem over : Rows.modelTextsUptoRow.holds Try.pinned (Rows.OpenSpec.upto Rows.modelTextsSpec) :=
  OpenClaim.holds_of_cond 7 Try.f7 rfl rfl rfl rfl rfl rfl rfl ⟨rfl, rfl, rfl, rfl, rfl⟩ rfl rfl rfl rfl rfl (by kernel_rfl) Try.func7 (by kernel_rfl)
    (of_decide_eq_true (by kernel_rfl)) (by unfold Func.isWrapper; first | (rw [if_pos (by decide +kernel)]; kernel_rfl) | (rw [if_neg (by decide +kernel)]; exact ⟨rfl, rfl⟩))
    (fun os started H enc _ F0 => lifted os started H enc F0)
end LawModelTexts
/-- The given statement. -/
theorem modelTextsUpto_proved : Rows.ModelTextsUptoSaid := LawModelTexts.over
#print axioms modelTextsUpto_proved
end Go.Proofs.Ytookcollmijjkaa
