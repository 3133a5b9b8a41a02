/- Two lists of operations, one behind the other, are the second from the state behind the first one: where what comes in is of bulk at most 1048576. -/
import Derived.Test.YtookcollmijjkaaMAwake
import Derived.Test.YtookcollmijjkaaMRuns
import Derived.Test.YtookcollmijjkaaMRising
import Derived.Test.YtookcollmijjkaaMOpsRow
import Derived.JoinedCond
namespace Go.Proofs.Ytookcollmijjkaa
open Go.RowKit
set_option linter.unusedVariables false
set_option linter.unusedSimpArgs false
theorem kinds_all {l : List OpR} {k : Int} (h : ∀ i (hi : i < l.length), (l[i]).kind = k) : (∀ o ∈ l, o.kind = 5) ∨ ∀ o ∈ l, o.kind ≠ 5 := by
  have h' : ∀ o ∈ l, o.kind = k := fun o ho => by
    obtain ⟨i, hi, rfl⟩ := List.mem_iff_getElem.1 ho
    exact h i hi
  by_cases hk : k = 5
  · exact .inl fun o ho => (h' o ho).trans hk
  · exact .inr fun o ho e => hk ((h' o ho).symm.trans e)
theorem kinds_sub {a b : List OpR} (h : (∀ o ∈ a ++ b, o.kind = 5) ∨ ∀ o ∈ a ++ b, o.kind ≠ 5) : ((∀ o ∈ a, o.kind = 5) ∨ ∀ o ∈ a, o.kind ≠ 5) ∧ ((∀ o ∈ b, o.kind = 5) ∨ ∀ o ∈ b, o.kind ≠ 5) := by
  rcases h with h | h
  · exact ⟨.inl fun o ho => h o (List.mem_append_left _ ho), .inl fun o ho => h o (List.mem_append_right _ ho)⟩
  · exact ⟨.inr fun o ho => h o (List.mem_append_left _ ho), .inr fun o ho => h o (List.mem_append_right _ ho)⟩
set_option maxRecDepth 100000 in
set_option maxHeartbeats 4000000 in
theorem Joins_walk (sa : Option Addr) (sn sc : Nat) (zs : List Int) (a : List OpR) (va : Value) (b : List OpR) (vb : Value) (w : World) (l0 : IntRow .i64 8 w sa sn sc zs) (ha : Ops w va a) (la : a.length ≤ 1048576) (hb : Ops w vb b) (lb : b.length ≤ 1048576) :
    Calls Try.prog 6 #[.slice sa sn sc, va, vb] w fun e w' => e = .returned (.bool true) ∧ Below w.heap.size w w' := by
  obtain ⟨hi, hr⟩ := Ints.of_row l0
  have hx44 : (zs.take sn).length ≤ 17592186044416 := by
    rcases l0 with ⟨-, -, -, rfl⟩ | ⟨x, -, hl, hm, hz, -, -, hre⟩
    · simp
    · rw [List.length_take]; omega
  generalize zs.take sn = xs at hi hr hx44
  generalize Value.slice sa sn sc = v at hi ⊢
  clear l0 hr
  obtain ⟨pa, ca, rfl, -⟩ := ha.at
  obtain ⟨pb, cb, rfl, -⟩ := hb.at
  have HI := hid hi
  have HA := hid ha
  have HB := hid hb
  have HN := hid (And.intro hx44 (And.intro la lb))
  have HW := hid (fun w => awake_c w)
  clear hi ha hb hx44
  obtain ⟨i0, hi0, hz0, hz1, hz2⟩ := info_parts infoOpM
  obtain ⟨na, hna⟩ : ∃ n, n = a.length := ⟨_, rfl⟩
  obtain ⟨nb, hnb⟩ : ∃ n, n = b.length := ⟨_, rfl⟩
  rw [← hna, ← hnb]
  rw [← hna] at la HA
  rw [← hnb] at lb HB
  have HNA := hid (And.intro hna hnb)
  clear hna hnb
  go_enter Try.func6, Try.ntmps6
  go_wp2_with (at_builtin; refine wpList_append_ops rfl _ _ rfl w.heap.size _ 0 [] rfl (World.ownsRow_made w #[] 0 (Nat.le_refl _) (Nat.zero_le _) rfl) pa na ca a rfl (HA.out.grow (Grow.alloc _ _)) (by omega) (by simp) ?_)
  intro v1 w1 ho1 hg1
  have g1 : Grow w w1 := ((Below.refl _ w).alloc (Nat.le_refl _) _).grown hg1 (by simp) (by intro k hk; simp [Value.ownBlock] at hk; omega)
  go_wp2_with (at_builtin; refine wpList_append_ops rfl _ _ rfl w.heap.size _ na a rfl ho1 pb nb cb b rfl (HB.out.grow g1) (by omega) (Below.size g1) ?_)
  intro v2 w2 ho2 hg2
  have g2 : Grow w w2 := g1.grown hg2 (Below.size g1) (fun k hk => (ho1.lt k hk).1)
  have hall := hid (Ops.of_own ho2 (by omega))
  clear ho1 ho2 hg1 hg2 g1
  obtain ⟨p, cap, rfl, hcells⟩ := hall.out.at
  have HC := hid hcells
  clear hcells
  obtain ⟨n, hn⟩ : ∃ n, n = (a ++ b).length := ⟨_, rfl⟩
  have hnab : n = na + nb := by have := HNA.out; rw [hn, List.length_append]; omega
  have hnmax : n ≤ 2097152 := by omega
  have HNAB := hid hnab
  clear hnab
  rw [← hn]
  rw [← hn] at hall
  have HNN := hid hn
  clear hn
  go_wp2_with fail
  go_loopw [8] (fun i wr => ∃ k : Nat, k ≤ n ∧ i = .int .i64 (k : Int) ∧ Hid (∀ i (hi : i < k) (hi2 : i < (a ++ b).length) (h0 : 0 < (a ++ b).length), ((a ++ b)[i]).kind = ((a ++ b)[0]).kind) ∧ Grow w2 wr) (fun i _ => n - (intOf i).toNat)
  case atStart => exact ⟨0, by omega, rfl, hid (fun i hi => by omega), Grow.refl _⟩
  case round =>
    obtain ⟨k, hk, rfl, HK, hg⟩ := hrel
    by_cases hlt : k < n
    · obtain ⟨b0, o0, rfl, a0⟩ := HC.out 0 (by have := HNN.out; omega)
      obtain ⟨b1, o1, e1, a1⟩ := HC.out k (by have := HNN.out; omega)
      cases e1
      have c0 := hg.cell a0.2.2.2.1
      have c1 := hg.cell a1.2.2.2.1
      clear a0 a1
      have HE := hid (fun (h : ((a ++ b)[k]'(by have := HNN.out; omega)).kind = ((a ++ b)[0]'(by have := HNN.out; omega)).kind) => (show ∀ i (hi : i < k + 1) (hi2 : i < (a ++ b).length) (h0 : 0 < (a ++ b).length), ((a ++ b)[i]).kind = ((a ++ b)[0]).kind from fun i hi hi2 h0 => by
        by_cases hik : i = k
        · subst hik; exact h
        · exact HK.out i (by omega) hi2 h0))
      generalize ((a ++ b)[k]'(by have := HNN.out; omega)).kind = y1 at *
      generalize ((a ++ b)[0]'(by have := HNN.out; omega)).kind = y0 at *
      have hk0 : (0 : Int) ≤ (k : Int) := by omega
      have hk2 : (k : Int) < (n : Int) := by omega
      have hk3 : (0 : Int) < (n : Int) := by omega
      by_cases he : y1 = y0
      · subst he
        have HE2 := hid (HE.out rfl)
        have hne : (y1 != y1) = false := by simp
        clear HE
        go_wp2_with fail
        go_quiet (fail)
        go_wp2_with fail
        go_roundw
        case rel => exact ⟨k + 1, by omega, by go_num, HE2, Grow.drewNM hg _⟩
        case measure => simp [intOf]; omega
      · have hne : (y1 != y0) = true := by simpa using he
        clear HE he
        go_wp2_with fail
        go_quiet (fail)
        go_wp2_with fail
        refine (HW.out _).mono ?_
        rintro e w5 ⟨rfl, b5⟩
        go_wp2_with fail
        go_ret
        exact ⟨rfl, Grow.trans (Grow.trans g2 (Grow.drewNM hg _)) b5⟩
    · obtain rfl : k = n := by omega
      have hkinds : (∀ o ∈ a ++ b, o.kind = 5) ∨ ∀ o ∈ a ++ b, o.kind ≠ 5 := by
        cases hab : a ++ b with
        | nil => exact .inl fun o ho => by cases ho
        | cons o l =>
          rw [← hab]
          exact kinds_all (k := ((a ++ b)[0]'(by rw [hab]; simp)).kind) (fun i hi => HK.out i (by have := HNN.out; omega) hi (by omega))
      have HKN := hid hkinds
      clear hkinds HK HC hlt
      have hR := fun w h bb hb => Rising_c xs v w h bb hb
      go_wp2_with fail
      by_cases hrise : xs.Pairwise (· < ·)
      · refine (hR _ (HI.out.grow (Grow.trans g2 hg)) true (by simpa using hrise)).mono ?_
        rintro e w3 ⟨rfl, b3⟩
        by_cases h300 : 300 < k
        · have hd : (300 : Int) < (k : Int) := by omega
          go_wp2_with fail
          refine (HW.out _).mono ?_
          rintro e w5 ⟨rfl, b5⟩
          go_wp2_with fail
          go_ret
          exact ⟨rfl, Grow.trans (Grow.trans (Grow.trans g2 hg) b3) b5⟩
        · have hd : ¬ (300 : Int) < (k : Int) := by omega
          have G3 : Grow w w3 := Grow.trans (Grow.trans g2 hg) b3
          have G32 : Grow w2 w3 := Grow.trans hg b3
          obtain ⟨kA, kB⟩ := kinds_sub HKN.out
          have HRa := hid (fun w h1 h2 => Runs_c xs a v (.slice pa na ca) w h1 h2 (by have := HN.out; have := HNA.out; have := HNN.out; simp only [List.length_append] at *; omega) kA (fun _ => hrise))
          have HRb := hid (fun (L : List Int) (vv : Value) w h1 h2 (hl : L.length < 19000000000000) hr => Runs_c L b vv (.slice pb nb cb) w h1 h2 (by have := HN.out; have := HNA.out; have := HNN.out; simp only [List.length_append] at *; omega) kB hr)
          have HRc := hid (fun w h1 h2 => Runs_c xs (a ++ b) v (.slice p k cap) w h1 h2 (by have := HN.out; have := HNA.out; have := HNN.out; simp only [List.length_append] at *; omega) HKN.out (fun _ => hrise))
          have hrx := runsL_length a xs
          have hrr : (∃ o ∈ b, o.kind = 5) → (runsL xs a).1.Pairwise (· < ·) := by
            rintro ⟨o, ho, h5⟩
            rcases HKN.out with h | h
            · exact runsL_rise a xs (fun o ho => h o (List.mem_append_left _ ho)) hrise
            · exact absurd h5 (h o (List.mem_append_right _ ho))
          have hap := runsL_append a b xs
          have HRd := hid (fun (vv : Value) w h1 h2 => HRb.out (runsL xs a).1 vv w h1 h2 (by have := HN.out; omega) hrr)
          clear HRb hrr hrx
          generalize runsL xs a = RA at *
          obtain ⟨LA, tA⟩ := RA
          dsimp only at *
          generalize runsL LA b = RB at *
          obtain ⟨LB, tB⟩ := RB
          generalize runsL xs (a ++ b) = RC at *
          subst hap
          clear hR h300 hrise kA kB HKN
          have HZ := hid (fun L va vb w ha hb => RInts_c L va vb w ha hb)
          cases tA
          · rw [if_pos rfl] at HRc
            cases tB
            all_goals
              go_wp2_with fail
              refine (HRa.out _ (HI.out.grow G3) (HA.out.grow G3)).mono ?_
              rintro e w4 ⟨x, rfl, ix, b4⟩
              have Ix := hid ix
              clear ix
              go_wp2_with fail
              refine (HRd.out _ _ Ix.out (HB.out.grow (Grow.trans G3 b4))).mono ?_
              rintro e w5 ⟨y, rfl, iy, b5⟩
              clear iy
              go_wp2_with fail
              refine (HRc.out _ (HI.out.grow (Grow.trans (Grow.trans G3 b4) b5)) (hall.out.grow (Grow.trans (Grow.trans G32 b4) b5))).mono ?_
              rintro e w6 ⟨z, rfl, iz, b6⟩
              clear iz
              go_wp2_with fail
              refine (HW.out _).mono ?_
              rintro e w7 ⟨rfl, b7⟩
              go_wp2_with fail
              go_ret
              exact ⟨rfl, Grow.trans (Grow.trans (Grow.trans (Grow.trans G3 b4) b5) b6) b7⟩
          · rw [if_neg (by simp)] at HRc
            cases tB
            · go_wp2_with fail
              refine (HRa.out _ (HI.out.grow G3) (HA.out.grow G3)).mono ?_
              rintro e w4 ⟨x, rfl, ix, b4⟩
              have Ix := hid ix
              clear ix
              go_wp2_with fail
              refine (HRd.out _ _ Ix.out (HB.out.grow (Grow.trans G3 b4))).mono ?_
              rintro e w5 ⟨y, rfl, iy, b5⟩
              clear iy
              go_wp2_with fail
              refine (HRc.out _ (HI.out.grow (Grow.trans (Grow.trans G3 b4) b5)) (hall.out.grow (Grow.trans (Grow.trans G32 b4) b5))).mono ?_
              rintro e w6 ⟨z, rfl, iz, b6⟩
              clear iz
              go_wp2_with fail
              refine (HW.out _).mono ?_
              rintro e w7 ⟨rfl, b7⟩
              go_wp2_with fail
              go_ret
              exact ⟨rfl, Grow.trans (Grow.trans (Grow.trans (Grow.trans G3 b4) b5) b6) b7⟩
            · go_wp2_with fail
              refine (HRa.out _ (HI.out.grow G3) (HA.out.grow G3)).mono ?_
              rintro e w4 ⟨x, rfl, ix, b4⟩
              have Ix := hid ix
              clear ix
              go_wp2_with fail
              refine (HRd.out _ _ Ix.out (HB.out.grow (Grow.trans G3 b4))).mono ?_
              rintro e w5 ⟨y, rfl, iy, b5⟩
              have Iy := hid iy
              clear iy
              go_wp2_with fail
              refine (HRc.out _ (HI.out.grow (Grow.trans (Grow.trans G3 b4) b5)) (hall.out.grow (Grow.trans (Grow.trans G32 b4) b5))).mono ?_
              rintro e w6 ⟨z, rfl, iz, b6⟩
              have Iz := hid iz
              clear iz
              go_wp2_with fail
              refine (HZ.out _ _ _ _ (Iy.out.grow b6) Iz.out).mono ?_
              rintro e w8 ⟨rfl, b8⟩
              go_wp2_with fail
              refine (HW.out _).mono ?_
              rintro e w7 ⟨rfl, b7⟩
              go_wp2_with fail
              go_ret
              exact ⟨rfl, Grow.trans (Grow.trans (Grow.trans (Grow.trans (Grow.trans G3 b4) b5) b6) b8) b7⟩
      · refine (hR _ (HI.out.grow (Grow.trans g2 hg)) false (by simpa using hrise)).mono ?_
        rintro e w3 ⟨rfl, b3⟩
        go_wp2_with fail
        refine (HW.out _).mono ?_
        rintro e w5 ⟨rfl, b5⟩
        go_wp2_with fail
        go_ret
        exact ⟨rfl, Grow.trans (Grow.trans (Grow.trans g2 hg) b3) b5⟩
namespace LawModelJoins
open Go.ChangeShapes Go.WideShapes Go.ChangeAt Go.RowKit
open Go.ChangeMaps (open_string shut_string)
theorem own : ownKnob Try.prog.godebug = none := by kernel_rfl
theorem laidOut : laidOutB Try.prog = true := by kernel_rfl
theorem bulk_string {H : Type} {bytes : List UInt8} (h : Rows.uptoBulk (DataW.lit (H := H) (.string bytes)) ≤ 1048576) : bytes.length ≤ 1048576 := by
  simp only [Rows.uptoBulk] at h
  omega
theorem bulk_lits {H : Type} (k : IntKind) : ∀ l : List Int, Rows.uptoBulkAll (lits (H := H) k l) = l.length
  | [] => by simp [lits, Rows.uptoBulkAll]
  | x :: l => by
    have := bulk_lits (H := H) k l
    simp only [lits, List.map_cons, Rows.uptoBulkAll, Rows.uptoBulk, List.length_cons] at this ⊢
    omega
theorem bulk_one {H : Type} (d : DataW H) : 1 ≤ Rows.uptoBulk d := by
  cases d with
  | lit x => cases x <;> simp [Rows.uptoBulk]
  | _ => simp [Rows.uptoBulk]
theorem bulk_len {H : Type} : ∀ l : List (DataW H), l.length ≤ Rows.uptoBulkAll l
  | [] => by simp
  | d :: l => by
    have := bulk_len l
    have := bulk_one d
    simp only [List.length_cons, Rows.uptoBulkAll]
    omega
theorem bulk_any {H : Type} {a b : List (DataW H)} (h : Rows.uptoBulk (DataW.slice a b) ≤ 1048576) : a.length + b.length ≤ 1048576 := by
  have := bulk_len a
  have := bulk_len b
  simp only [Rows.uptoBulk] at h
  omega
theorem bulk_slice {H : Type} {k : IntKind} {a b : List Int} (h : Rows.uptoBulk (DataW.slice (H := H) (lits k a) (lits k b)) ≤ 1048576) : (lits (H := H) k a).length + (lits (H := H) k b).length ≤ 1048576 := by
  simp only [Rows.uptoBulk, bulk_lits] at h
  simp only [lits, List.length_map]
  omega
set_option maxRecDepth 100000 in
theorem lifted (os : Os) (started : os.Started) (H : Type) (enc : TypeId × Value → H) (F0 : Stop.Interp) :
    ReturnsInHanded {} Try.checked os 6 .any ((Rows.OpenSpec.upto Rows.modelJoinsSpec).pre6 enc Try.prog Try.f6 Rows.modelJoinsUptoRow.domain false) (((Rows.OpenSpec.upto Rows.modelJoinsSpec).at F0).post enc Try.prog Try.f6 false true false false) := by
  refine returnsInHanded_of_cond (C := Try.checked) (s := Rows.OpenSpec.upto Rows.modelJoinsSpec) (k := Rows.uptoSmall) rfl own started (by kernel_rfl) Try.func6
    (OpenSpec.witness (enc := enc) (C := Try.checked) (s := Rows.OpenSpec.upto Rows.modelJoinsSpec) (k := Rows.uptoSmall) rfl false ⟨#[], #[.slice none 0 0, .slice none 0 0, .slice none 0 0], []⟩ 8 (by kernel_rfl) (by kernel_rfl) (by kernel_rfl)
      (x := ([.nil, .nil, .nil], [], [])) (by kernel_rfl) (by kernel_rfl) (by simp [Rows.uptoSmall, Rows.uptoBulkAll, Rows.uptoBulk])) ?_
  intro W base args ds gs before hval0 hW hcnd hk _
  have hval : ∀ (j : Nat) t v, Try.f6.params[j]? = some t → args[j]? = some v → Value.okWide Try.prog W .any base t v := hval0
  have hW' := hW
  obtain ⟨p, q, hA0, hV, rfl, hfz, hnd⟩ := hW
  have hA : DataW.TrodAll enc Try.prog W 0 (fun _ => true) true Try.f6.params.toList args.toList ds p := hA0
  rw [Try.params6] at hA hval
  obtain ⟨v0, vs0, d0, ds0, p0, q0, hargs, rfl, rfl, h0, r0⟩ := trodAll_cons hA
  obtain ⟨v1, vs1, d1, ds1, p1, q1, rfl, rfl, rfl, h1, r1⟩ := trodAll_cons r0
  obtain ⟨v2, vs2, d2, ds2, p2, q2, rfl, rfl, rfl, h2, r2⟩ := trodAll_cons r1
  obtain ⟨rfl, rfl, rfl⟩ := trodAll_nil r2
  obtain rfl : args = #[v0, v1, v2] := by cases args; simp_all
  obtain ⟨rfl, rfl⟩ := trodVars_none hV
  simp only [Rows.uptoSmall, decide_eq_true_eq, List.append_nil, Rows.uptoBulkAll] at hk
  have hk0 : Rows.uptoBulk d0 ≤ 1048576 := by omega
  have hk1 : Rows.uptoBulk d1 ≤ 1048576 := by omega
  have hk2 : Rows.uptoBulk d2 ≤ 1048576 := by omega
  clear hk
  obtain ⟨a0, n0, c0, rfl⟩ := okWide_slice Try.underlying22 (hval 0 22 v0 rfl rfl)
  have k0 := h0
  have lt0 : ∀ x ∈ p0, x.block < W.heap.size := by obtain ⟨m, hm⟩ := k0; exact DataW.trod_lt m _ _ _ hm
  obtain ⟨z0, w0⟩ : ∃ zs, IntRow .i64 8 W a0 n0 c0 zs := by
    obtain ⟨fuel, hf⟩ := h0
    rcases open_ints Try.underlying22 Try.underlying3 (by kernel_rfl) hf with ⟨hcs, _⟩ | ⟨x, l, c, zs, hcs, _, hl, hm, hz, hx, hcell, hwz⟩
    · simp [Value.cells] at hcs
      obtain ⟨rfl, rfl, rfl⟩ := hcs
      exact ⟨[], .inl ⟨rfl, rfl, rfl, rfl⟩⟩
    · simp [Value.cells] at hcs
      obtain ⟨rfl, rfl, rfl⟩ := hcs
      simp only [Prod.mk.injEq] at hx
      obtain ⟨rfl, _⟩ := hx
      have hre := bulk_slice hk0
      simp only [lits, List.length_map, List.length_take, List.length_drop] at hre
      have hz' : zs.length = c0 := by simpa using hz
      exact ⟨zs, .inr ⟨_, rfl, hl, hm, hz', hcell, hwz, by rw [← hz']; omega⟩⟩
  obtain ⟨a1, n1, c1, rfl⟩ := okWide_slice Try.underlying35 (hval 1 35 v1 rfl rfl)
  have k1 := h1
  have lt1 : ∀ x ∈ p1, x.block < W.heap.size := by obtain ⟨m, hm⟩ := k1; exact DataW.trod_lt m _ _ _ hm
  obtain ⟨z1, w1, u1⟩ : ∃ l, Ops W (.slice a1 n1 c1) l ∧ l.length ≤ 1048576 := by
    obtain ⟨fuel, hf⟩ := h1
    obtain ⟨l, v, hcs, hl, hu⟩ := open_ops (B := 1048576) (by omega) hf (fun elems sp hx => by
      simp only at hx
      subst hx
      exact bulk_any hk1)
    simp [Value.cells] at hcs
    subst hcs
    exact ⟨l, hl, hu⟩
  obtain ⟨a2, n2, c2, rfl⟩ := okWide_slice Try.underlying35 (hval 2 35 v2 rfl rfl)
  have k2 := h2
  have lt2 : ∀ x ∈ p2, x.block < W.heap.size := by obtain ⟨m, hm⟩ := k2; exact DataW.trod_lt m _ _ _ hm
  obtain ⟨z2, w2, u2⟩ : ∃ l, Ops W (.slice a2 n2 c2) l ∧ l.length ≤ 1048576 := by
    obtain ⟨fuel, hf⟩ := h2
    obtain ⟨l, v, hcs, hl, hu⟩ := open_ops (B := 1048576) (by omega) hf (fun elems sp hx => by
      simp only at hx
      subst hx
      exact bulk_any hk2)
    simp [Value.cells] at hcs
    subst hcs
    exact ⟨l, hl, hu⟩
  clear hA0 hval0
  refine (Joins_walk a0 n0 c0 z0 z1 (.slice a1 n1 c1) z2 (.slice a2 n2 c2) W w0 w1 u1 w2 u2).mono fun e W' ⟨he, bel⟩ => ?_
  subst he
  exact ⟨_, rfl, _, _, _, [], _, [], hW', trodAll_mk1 (shut_bool Try.underlying4 _), (trodAll_cons_mk (Below.trod laidOut (by kernel_rfl) (of_decide_eq_true (by kernel_rfl)) k0 bel lt0) (trodAll_cons_mk (Below.trod laidOut (by kernel_rfl) (of_decide_eq_true (by kernel_rfl)) k1 bel lt1) (trodAll_cons_mk (Below.trod laidOut (by kernel_rfl) (of_decide_eq_true (by kernel_rfl)) k2 bel lt2) trodAll_mk0))), rfl, bel.frame _, fun h => by cases h⟩
theorem over : Rows.modelJoinsUptoRow.holds Try.pinned (Rows.OpenSpec.upto Rows.modelJoinsSpec) :=
  OpenClaim.holds_of_cond 6 Try.f6 rfl rfl rfl rfl rfl rfl rfl ⟨rfl, rfl, rfl, rfl, rfl⟩ rfl rfl rfl rfl rfl (by kernel_rfl) Try.func6 (by kernel_rfl)
    (of_decide_eq_true (by kernel_rfl)) (by unfold Func.isWrapper; first | (rw [if_pos (by decide +kernel)]; kernel_rfl) | (rw [if_neg (by decide +kernel)]; exact ⟨rfl, rfl⟩))
    (fun os started H enc _ F0 => lifted os started H enc F0)
end LawModelJoins
/-- The given statement. -/
theorem modelJoinsUpto_proved : Rows.ModelJoinsUptoSaid := LawModelJoins.over
#print axioms modelJoinsUpto_proved
end Go.Proofs.Ytookcollmijjkaa
