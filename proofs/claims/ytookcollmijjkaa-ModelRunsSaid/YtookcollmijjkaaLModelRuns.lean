/- The state behind operations, one after the other, or that they can't be done so: the model's is the reference's. -/
import Derived.Test.YtookcollmijjkaaMAwake
import Derived.Test.YtookcollmijjkaaMRStep
import Derived.Test.YtookcollmijjkaaMRising
namespace Go.Proofs.Ytookcollmijjkaa
open Go.RowKit
set_option linter.unusedVariables false
set_option linter.unusedSimpArgs false
theorem kinds_allR {l : List OpR} {k : Int} (h : ∀ i (hi : i < l.length), (l[i]).kind = k) : (∀ o ∈ l, o.kind = 5) ∨ ∀ o ∈ l, o.kind ≠ 5 := by
  have h' : ∀ o ∈ l, o.kind = k := fun o ho => by
    obtain ⟨i, hi, rfl⟩ := List.mem_iff_getElem.1 ho
    exact h i hi
  by_cases hk : k = 5
  · exact .inl fun o ho => (h' o ho).trans hk
  · exact .inr fun o ho e => hk ((h' o ho).symm.trans e)
set_option maxRecDepth 100000 in
set_option maxHeartbeats 4000000 in
theorem Runs_walk (sa : Option Addr) (sn sc : Nat) (zs : List Int) (l : List OpR) (vo : Value) (w : World) (l0 : IntRow .i64 8 w sa sn sc zs) (ho : Ops w vo l) (lo : l.length ≤ 1600000000000) :
    Calls Try.prog 5 #[.slice sa sn sc, vo] w fun e w' => e = .returned (.bool true) ∧ Below w.heap.size w w' := by
  obtain ⟨hi, hr⟩ := Ints.of_row l0
  have hx44 : (zs.take sn).length + 512 ≤ 17592186044416 := by
    rcases l0 with ⟨-, -, -, rfl⟩ | ⟨x, -, hl, hm, hz, -, -, hre⟩
    · simp
    · rw [List.length_take]; omega
  generalize zs.take sn = xs at hi hr hx44
  generalize Value.slice sa sn sc = v at hi ⊢
  clear l0 hr
  obtain ⟨p, cap, rfl, hcells⟩ := ho.at
  have HI := hid hi
  have HO := hid ho
  have HC := hid hcells
  have HX := hid hx44
  have HW := hid (fun w => awake_c w)
  clear hi ho hx44 hcells
  obtain ⟨n, hn⟩ : ∃ n, n = l.length := ⟨_, rfl⟩
  rw [← hn]
  rw [← hn] at lo HO
  have HNN := hid hn
  clear hn
  have hR := fun w h bb hb => Rising_c xs v w h bb hb
  have HR := hid hR
  clear hR
  go_enter Try.func5, Try.ntmps5
  go_wp2_with fail
  by_cases hrise : xs.Pairwise (· < ·)
  · refine (HR.out _ HI.out true (by simpa using hrise)).mono ?_
    rintro e w2 ⟨rfl, g2⟩
    by_cases h300 : 300 < n
    · have hd : (300 : Int) < (n : Int) := by omega
      go_wp2_with fail
      refine (HW.out _).mono ?_
      rintro e w5 ⟨rfl, b5⟩
      go_wp2_with fail
      go_ret
      exact ⟨rfl, Grow.trans g2 b5⟩
    · have hd : ¬ (300 : Int) < (n : Int) := by omega
      have HRise := hid hrise
      clear hrise
      go_wp2_with fail
      go_loopw [5] (fun i wr => ∃ k : Nat, k ≤ n ∧ i = .int .i64 (k : Int) ∧ Hid (∀ i (hi : i < k) (hi2 : i < l.length) (h0 : 0 < l.length), (l[i]).kind = (l[0]).kind) ∧ Grow w2 wr) (fun i _ => n - (intOf i).toNat)
      case atStart => exact ⟨0, by omega, rfl, hid (fun i hi => by omega), Grow.refl _⟩
      case round =>
        obtain ⟨k, hk, rfl, HK, hg⟩ := hrel
        by_cases hlt : k < n
        · obtain ⟨b0, o0, rfl, a0⟩ := HC.out 0 (by have := HNN.out; omega)
          obtain ⟨b1, o1, e1, a1⟩ := HC.out k (by have := HNN.out; omega)
          cases e1
          have c0 := (Grow.trans g2 hg).cell a0.2.2.2.1
          have c1 := (Grow.trans g2 hg).cell a1.2.2.2.1
          clear a0 a1
          have HE := hid (fun (h : (l[k]'(by have := HNN.out; omega)).kind = (l[0]'(by have := HNN.out; omega)).kind) => (show ∀ i (hi : i < k + 1) (hi2 : i < l.length) (h0 : 0 < l.length), (l[i]).kind = (l[0]).kind from fun i hi hi2 h0 => by
            by_cases hik : i = k
            · subst hik; exact h
            · exact HK.out i (by omega) hi2 h0))
          generalize (l[k]'(by have := HNN.out; omega)).kind = y1 at *
          generalize (l[0]'(by have := HNN.out; omega)).kind = y0 at *
          have hk0 : (0 : Int) ≤ (k : Int) := by omega
          have hk2 : (k : Int) < (n : Int) := by omega
          have hk3 : (0 : Int) < (n : Int) := by omega
          by_cases he : y1 = y0
          · subst he
            have HE2 := hid (HE.out rfl)
            have hne : (y1 != y1) = false := by simp
            clear HE
            go_wp2_with fail
            go_quiet (fail)
            go_wp2_with fail
            go_roundw
            case rel => exact ⟨k + 1, by omega, by go_num, HE2, Grow.drewNM hg _⟩
            case measure => simp [intOf]; omega
          · have hne : (y1 != y0) = true := by simpa using he
            clear HE he
            go_wp2_with fail
            go_quiet (fail)
            go_wp2_with fail
            refine (HW.out _).mono ?_
            rintro e w5 ⟨rfl, b5⟩
            go_wp2_with fail
            go_ret
            exact ⟨rfl, Grow.trans (Grow.trans g2 (Grow.drewNM hg _)) b5⟩
        · obtain rfl : k = n := by omega
          have hkinds : (∀ o ∈ l, o.kind = 5) ∨ ∀ o ∈ l, o.kind ≠ 5 := by
            cases hab : l with
            | nil => exact .inl fun o ho => by cases ho
            | cons o l' =>
              rw [← hab]
              exact kinds_allR (k := (l[0]'(by rw [hab]; simp)).kind) (fun i hi => HK.out i (by have := HNN.out; omega) hi (by omega))
          have G3 : Grow w wr := Grow.trans g2 hg
          have HRa := hid (fun w h1 h2 => Runs_c xs l v (.slice p k cap) w h1 h2 (by have := HX.out; have := HNN.out; omega) hkinds (fun _ => HRise.out))
          have HRb := hid (fun w h1 h2 => RRuns_c xs l v (.slice p k cap) w h1 h2 (by have := HX.out; have := HNN.out; omega))
          have HZ := hid (fun L va vb w ha hb => RInts_c L va vb w ha hb)
          clear hkinds HK HC hlt h300
          generalize runsL xs l = RA at *
          obtain ⟨LA, tA⟩ := RA
          (try dsimp only at *)
          go_wp2_with fail
          refine (HRa.out _ (HI.out.grow G3) (HO.out.grow G3)).mono ?_
          rintro e w4 ⟨x, rfl, ix, b4⟩
          have Ix := hid ix
          clear ix
          go_wp2_with fail
          refine (HRb.out _ (HI.out.grow (Grow.trans G3 b4)) (HO.out.grow (Grow.trans G3 b4))).mono ?_
          rintro e w5 ⟨y, rfl, iy, b5⟩
          have Iy := hid iy
          clear iy
          have htt : (tA == tA) = true := by simp
          go_wp2_with fail
          refine (HZ.out _ _ _ _ (Ix.out.grow b5) Iy.out).mono ?_
          rintro e w8 ⟨rfl, b8⟩
          go_wp2_with fail
          refine (HW.out _).mono ?_
          rintro e w7 ⟨rfl, b7⟩
          go_wp2_with fail
          go_ret
          exact ⟨rfl, Grow.trans (Grow.trans (Grow.trans (Grow.trans G3 b4) b5) b8) b7⟩
  · refine (HR.out _ HI.out false (by simpa using hrise)).mono ?_
    rintro e w2 ⟨rfl, g2⟩
    go_wp2_with fail
    refine (HW.out _).mono ?_
    rintro e w5 ⟨rfl, b5⟩
    go_wp2_with fail
    go_ret
    exact ⟨rfl, Grow.trans g2 b5⟩
namespace LawModelRuns
open Go.ChangeShapes Go.WideShapes Go.ChangeAt Go.RowKit
open Go.ChangeMaps (open_string shut_string)
theorem own : ownKnob Try.prog.godebug = none := by kernel_rfl
theorem laidOut : laidOutB Try.prog = true := by kernel_rfl
set_option maxRecDepth 100000 in
theorem lifted (os : Os) (started : os.Started) (H : Type) (enc : TypeId × Value → H) :
    ReturnsInHanded {} Try.checked os 5 .any (Rows.modelRunsSpec.pre6 enc Try.prog Try.f5 Rows.modelRunsRow.domain false) (Rows.modelRunsSpec.post enc Try.prog Try.f5 false true false false) := by
  refine returnsInHanded_of_change_sized (C := Try.checked) own started (by kernel_rfl) Try.func5
    (ChangeSpec.witness6 (enc := enc) (C := Try.checked) false ⟨#[], #[.slice none 0 0, .slice none 0 0], []⟩ 8 (by kernel_rfl) (by kernel_rfl) (by kernel_rfl) (by kernel_rfl)) ?_
  intro W base args ds gs before hval0 hW hcnd hsz _
  have hval : ∀ (j : Nat) t v, Try.f5.params[j]? = some t → args[j]? = some v → Value.okWide Try.prog W .any base t v := hval0
  have hW' := hW
  obtain ⟨p, q, hA0, hV, rfl, hfz, hnd⟩ := hW
  have hA : DataW.TrodAll enc Try.prog W 0 (fun _ => true) true Try.f5.params.toList args.toList ds p := hA0
  rw [Try.params5] at hA hval hsz
  obtain ⟨v0, vs0, d0, ds0, p0, q0, hargs, rfl, rfl, h0, r0⟩ := trodAll_cons hA
  obtain ⟨v1, vs1, d1, ds1, p1, q1, rfl, rfl, rfl, h1, r1⟩ := trodAll_cons r0
  obtain ⟨rfl, rfl, rfl⟩ := trodAll_nil r1
  obtain rfl : args = #[v0, v1] := by cases args; simp_all
  obtain ⟨rfl, rfl⟩ := trodVars_none hV
  obtain ⟨a0, n0, c0, rfl⟩ := okWide_slice Try.underlying22 (hval 0 22 v0 rfl rfl)
  have k0 := h0
  have lt0 : ∀ x ∈ p0, x.block < W.heap.size := by obtain ⟨m, hm⟩ := k0; exact DataW.trod_lt m _ _ _ hm
  obtain ⟨z0, w0⟩ : ∃ zs, IntRow .i64 8 W a0 n0 c0 zs := by
    obtain ⟨fuel, hf⟩ := h0
    rcases open_ints Try.underlying22 Try.underlying3 (by kernel_rfl) hf with ⟨hcs, _⟩ | ⟨x, l, c, zs, hcs, _, hl, hm, hz, hx, hcell, hwz⟩
    · simp [Value.cells] at hcs
      obtain ⟨rfl, rfl, rfl⟩ := hcs
      exact ⟨[], .inl ⟨rfl, rfl, rfl, rfl⟩⟩
    · simp [Value.cells] at hcs
      obtain ⟨rfl, rfl, rfl⟩ := hcs
      simp only [Prod.mk.injEq] at hx
      obtain ⟨rfl, _⟩ := hx
      have hre := sized_slice hsz (j := 0) (t := 22) rfl rfl Try.underlying22
      have hby : Try.checked.prog.bytesOf 3 = 8 := by kernel_rfl
      rw [hby] at hre
      simp only [lits, List.length_map, List.length_take, List.length_drop, reachBytes] at hre
      have hz' : zs.length = c0 := by simpa using hz
      exact ⟨zs, .inr ⟨_, rfl, hl, hm, hz', hcell, hwz, by rw [← hz']; omega⟩⟩
  obtain ⟨a1, n1, c1, rfl⟩ := okWide_slice Try.underlying35 (hval 1 35 v1 rfl rfl)
  have k1 := h1
  have lt1 : ∀ x ∈ p1, x.block < W.heap.size := by obtain ⟨m, hm⟩ := k1; exact DataW.trod_lt m _ _ _ hm
  obtain ⟨z1, w1, u1⟩ : ∃ l, Ops W (.slice a1 n1 c1) l ∧ l.length ≤ 1600000000000 := by
    obtain ⟨fuel, hf⟩ := h1
    obtain ⟨l, v, hcs, hl, hu⟩ := open_ops (B := 1600000000000) (by omega) hf (fun elems sp hx => by
      simp only at hx
      subst hx
      have hre := sized_slice hsz (j := 1) (t := 35) rfl rfl Try.underlying35
      have hby : Try.checked.prog.bytesOf 27 = 88 := by kernel_rfl
      rw [hby] at hre
      simp only [reachBytes] at hre
      omega)
    simp [Value.cells] at hcs
    subst hcs
    exact ⟨l, hl, hu⟩
  clear hA0 hval0
  refine (Runs_walk a0 n0 c0 z0 z1 (.slice a1 n1 c1) W w0 w1 u1).mono fun e W' ⟨he, bel⟩ => ?_
  subst he
  exact ⟨_, rfl, _, _, _, [], _, [], hW', trodAll_mk1 (shut_bool Try.underlying4 _), (trodAll_cons_mk (Below.trod laidOut (by kernel_rfl) (of_decide_eq_true (by kernel_rfl)) k0 bel lt0) (trodAll_cons_mk (Below.trod laidOut (by kernel_rfl) (of_decide_eq_true (by kernel_rfl)) k1 bel lt1) trodAll_mk0)), rfl, bel.frame _, fun h => by cases h⟩
theorem over : Rows.modelRunsRow.holds Try.pinned (OpenSpec.ofChange Rows.modelRunsSpec) :=
  OpenClaim.holds_of_wide 5 Try.f5 rfl rfl rfl rfl rfl rfl rfl ⟨rfl, rfl, rfl, rfl, rfl⟩ rfl rfl rfl rfl rfl (by kernel_rfl) Try.func5 (by kernel_rfl)
    (of_decide_eq_true (by kernel_rfl)) (by unfold Func.isWrapper; first | (rw [if_pos (by decide +kernel)]; kernel_rfl) | (rw [if_neg (by decide +kernel)]; exact ⟨rfl, rfl⟩))
    (fun os started H enc _ => lifted os started H enc)
end LawModelRuns
/-- The given statement. -/
theorem modelRuns_proved : Rows.ModelRunsSaid := LawModelRuns.over
#print axioms modelRuns_proved
end Go.Proofs.Ytookcollmijjkaa
