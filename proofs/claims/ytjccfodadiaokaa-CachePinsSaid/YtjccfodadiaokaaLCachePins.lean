/- What has a pin stays, whatever is put, and nothing can be put, if all have one. -/
import Derived.Test.YtjccfodadiaokaaCAwake
import Derived.Test.YtjccfodadiaokaaCPins
namespace Go.Proofs.Ytjccfodadiaokaa
open Go.RowKit
set_option linter.unusedVariables false
set_option linter.unusedSimpArgs false
theorem Ints.at {w : World} {v : Value} {xs : List Int} (h : Ints w v xs) : ∃ p cap, v = .slice p xs.length cap ∧ ∀ k (hk : k < xs.length), ∃ (b off : Nat), p = some ⟨b, off, none⟩ ∧ w.cell? ⟨b, off + k, none⟩ = some (.int .i64 (xs[k])) := by
  obtain ⟨p, cap, rfl, hl, hc, hcap⟩ := h
  refine ⟨p, cap, rfl, fun k hk => ?_⟩
  obtain ⟨b, off, e, H⟩ := hc (by omega)
  have := H k hk
  rw [show xs.getD k 0 = xs[k] by simp [List.getD, hk]] at this
  exact ⟨b, off, e, this⟩
/-- The cache that a law has made, behind some calls. -/
def InCache (w wr : World) (p : Nat) (most : Int) (l : List CItem) : Prop := ∃ v, CacheAt wr p most v l ∧ (∀ k, v.ownBlock = some k → w.heap.size ≤ k) ∧ Below w.heap.size w wr ∧ w.heap.size ≤ p
theorem InCache.step {w wr w' : World} {p : Nat} {most : Int} {v : Value} {l' : List CItem} (ho : ∀ k, v.ownBlock = some k → w.heap.size ≤ k) (hb : Below w.heap.size w wr) (hp : w.heap.size ≤ p) (h : Behind p most v l' wr w') : InCache w w' p most l' := by
  obtain ⟨v', h1, h2, h3⟩ := h
  exact ⟨v', h1, fun k hk => (h3 k hk).elim (ho k) (Nat.le_trans hb.size), Below.trans hb (h2.below hb.size hp ho), hp⟩
theorem InCache.below {w wr : World} {p : Nat} {most : Int} {l : List CItem} (h : InCache w wr p most l) : Below w.heap.size w wr := by
  obtain ⟨v, -, -, hb, -⟩ := h
  exact hb
theorem InCache.put {w wr : World} {p : Nat} {most : Int} {l : List CItem} (h : InCache w wr p most l) (hl : l.length ≤ 1000000) (hm : 1 ≤ most) (k : Int) (s : ByteArray) :
    Calls Try.prog 11 #[.pointer (some ⟨p, 0, none⟩), .int .i64 k, .string s] wr fun e w' => e = .returned (.tuple #[.int .i64 (putP most l k s).2.1, .bool (putP most l k s).2.2.1, .int .i64 (putP most l k s).2.2.2]) ∧ InCache w w' p most (putP most l k s).1 := by
  obtain ⟨v, h1, h2, h3, h4⟩ := h
  refine (Put_c p most v l k s wr h1 hl hm).mono ?_
  rintro e w' ⟨rfl, h⟩
  exact ⟨rfl, InCache.step h2 h3 h4 h⟩
theorem InCache.get {w wr : World} {p : Nat} {most : Int} {l : List CItem} (h : InCache w wr p most l) (hl : l.length ≤ 1000000) (k : Int) :
    Calls Try.prog 13 #[.pointer (some ⟨p, 0, none⟩), .int .i64 k] wr fun e w' => e = .returned (.tuple #[.string (getP l k).2.1, .bool (getP l k).2.2]) ∧ InCache w w' p most (getP l k).1 := by
  obtain ⟨v, h1, h2, h3, h4⟩ := h
  refine (Get_c p most v l k wr h1 hl).mono ?_
  rintro e w' ⟨rfl, h⟩
  exact ⟨rfl, InCache.step h2 h3 h4 h⟩
theorem InCache.pin {w wr : World} {p : Nat} {most : Int} {l : List CItem} (h : InCache w wr p most l) (hl : l.length ≤ 1000000) (k : Int) (hp : ∀ x ∈ l, -1000000000 ≤ x.pins ∧ x.pins ≤ 1000000000) :
    Calls Try.prog 12 #[.pointer (some ⟨p, 0, none⟩), .int .i64 k] wr fun e w' => e = .returned (.bool (pinP l k).2) ∧ InCache w w' p most (pinP l k).1 := by
  obtain ⟨v, h1, h2, h3, h4⟩ := h
  refine (Pin_c p most v l k wr h1 hl hp).mono ?_
  rintro e w' ⟨rfl, h⟩
  exact ⟨rfl, InCache.step h2 h3 h4 h⟩
def sPinned : ByteArray := ⟨#[112, 105, 110, 110, 101, 100]⟩
set_option maxRecDepth 100000 in
set_option maxHeartbeats 8000000 in
theorem Pins_walk (ka : Option Addr) (kn kc : Nat) (kz : List Int) (ma : Option Addr) (mn mc : Nat) (mz : List Int) (w : World) (l0 : IntRow .i64 8 w ka kn kc kz) (l1 : IntRow .i64 8 w ma mn mc mz) :
    Calls Try.prog 3 #[.slice ka kn kc, .slice ma mn mc] w fun e w' => e = .returned (.bool true) ∧ Below w.heap.size w w' := by
  obtain ⟨hk, -⟩ := Ints.of_row l0
  obtain ⟨hm, -⟩ := Ints.of_row l1
  generalize kz.take kn = K at hk
  generalize mz.take mn = M at hm
  generalize Value.slice ka kn kc = vk at hk ⊢
  generalize Value.slice ma mn mc = vm at hm ⊢
  clear l0 l1
  obtain ⟨kp, kc, rfl, hkc⟩ := hk.at
  obtain ⟨mp, mc, rfl, hmc⟩ := hm.at
  have HKC := hid hkc
  have HMC := hid hmc
  have hk20 := hk.length
  have hm20 := hm.length
  have HW := hid (fun w => awake_c w)
  have HS := hid (show sPinned = ⟨#[112, 105, 110, 110, 101, 100]⟩ from rfl)
  clear hk hm hkc hmc
  have HNEW := hid (fun (h1 : 1 ≤ K.length) (h2 : K.length ≤ 12) => New_c ((K.length : Int) + 1) w (by omega) (by omega))
  have HST := hid (fun i l (h : Pinned K sPinned i l) (hi : i < K.length) (most : Int) (hm : (K.length : Int) < most) => h.step hi most hm)
  obtain ⟨n, hn⟩ : ∃ n, n = K.length := ⟨_, rfl⟩
  obtain ⟨m, hm⟩ : ∃ m, m = M.length := ⟨_, rfl⟩
  rw [← hn] at hk20 HNEW ⊢
  rw [← hm] at hm20 ⊢
  have HN := hid hn
  have HM := hid hm
  clear hn hm
  by_cases hguard : n < 1 ∨ 12 < n ∨ 50 < m
  · have hd1 : n < 1 ∨ ¬ n < 1 := by omega
    have hd2 : 12 < n ∨ ¬ 12 < n := by omega
    have hd3 : 50 < m ∨ ¬ 50 < m := by omega
    rcases hd1 with h1 | h1 <;> rcases hd2 with h2 | h2 <;> rcases hd3 with h3 | h3
    all_goals first | (exfalso; omega) | skip
    all_goals
      clear hguard
      have i1 : ((n : Int) < 1 ↔ n < 1) := by omega
      have i2 : ((12 : Int) < (n : Int) ↔ 12 < n) := by omega
      have i3 : ((50 : Int) < (m : Int) ↔ 50 < m) := by omega
      go_enter Try.func3, Try.ntmps3
      go_wp2_with fail
      refine (HW.out _).mono ?_
      rintro e w5 ⟨rfl, b5⟩
      go_wp2_with fail
      go_ret
      exact ⟨rfl, b5⟩
  · have h1 : ¬ n < 1 := by omega
    have h2 : ¬ 12 < n := by omega
    have h3 : ¬ 50 < m := by omega
    have i1 : ¬ ((n : Int) < 1) := by omega
    have i2 : ¬ ((12 : Int) < (n : Int)) := by omega
    have i3 : ¬ ((50 : Int) < (m : Int)) := by omega
    clear hguard
    go_enter Try.func3, Try.ntmps3
    go_wp2_with fail
    refine (HNEW.out (by omega) (by omega)).mono ?_
    rintro e w1 ⟨rfl, hc1, g1⟩
    have HC1 := hid (show InCache w w1 w.heap.size ((n : Int) + 1) [] from ⟨_, hc1, fun k hk => absurd hk (by simp [Value.ownBlock]), g1, Nat.le_refl _⟩)
    clear hc1 g1
    go_wp2_with fail
    go_loopw [7] (fun i wr => ∃ (j : Nat) (l : List CItem), j ≤ n ∧ i = .int .i64 (j : Int) ∧ Hid (Pinned K sPinned j l) ∧ Hid (InCache w wr w.heap.size ((n : Int) + 1) l)) (fun i _ => n - (intOf i).toNat)
    case atStart => exact ⟨0, [], by omega, rfl, hid ⟨by simp, by simp, fun q h hq => by omega⟩, HC1⟩
    case round =>
      obtain ⟨j, l, hj, rfl, HP, HC⟩ := hrel
      clear HC1
      by_cases hlt : j < n
      · obtain ⟨b, off, rfl, a0⟩ := HKC.out j (by have := HN.out; omega)
        have HCELL := hid (show ∀ x, K[j]'(by have := HN.out; omega) = x → ∀ w2, Below w.heap.size w w2 → w2.cell? ⟨b, off + j, none⟩ = some (.int .i64 x) from fun x hx w2 hb => by
          rw [← hx, ← a0]
          exact Below.cell hb (World.block_lt_of_cell? w _ a0))
        obtain ⟨t1, t2, t3, t4, t5, t6⟩ := HST.out j l HP.out (by have := HN.out; omega) ((n : Int) + 1) (by have := HN.out; omega)
        obtain ⟨ky, hky⟩ : ∃ x, K[j]'(by have := HN.out; omega) = x := ⟨_, rfl⟩
        have b0 := HCELL.out _ hky _ HC.out.below
        have HCELL2 := hid (HCELL.out _ hky)
        clear HCELL
        rw [hky] at t1 t2 t3 t4 t5 t6
        have HPUT := hid (HC.out.put (by have := HP.out.1; omega) (by omega) ky sPinned)
        have hj0 : (0 : Int) ≤ (j : Int) := by omega
        have hj1 : (j : Int) < (n : Int) := by omega
        obtain ⟨⟨L, gone, out, er⟩, hL⟩ : ∃ r, putP ((n : Int) + 1) l ky sPinned = r := ⟨_, rfl⟩
        rw [hL] at HPUT t1 t2 t3 t4 t5 t6
        dsimp only at HPUT t1 t2 t3 t4 t5 t6
        subst t1 t2
        obtain ⟨⟨L2, ok⟩, hL2⟩ : ∃ r, pinP L ky = r := ⟨_, rfl⟩
        have HPIN := hid (fun w2 (h : InCache w w2 w.heap.size ((n : Int) + 1) L) => h.pin (by omega) ky (fun x hx => by have := t3 x hx; omega))
        rw [hL2] at HPIN t5 t6
        dsimp only at HPIN t5 t6
        subst t5
        have HP6 := hid t6
        clear t3 t4 t6 hL hL2 hky a0
        have hsp := HS.out
        have HPUT2 : Hid (Calls Try.prog 11 #[.pointer (some ⟨w.heap.size, 0, none⟩), .int .i64 ky, .string ⟨#[112, 105, 110, 110, 101, 100]⟩] wr fun e w' => e = .returned (.tuple #[.int .i64 gone, .bool false, .int .i64 0]) ∧ InCache w w' w.heap.size ((n : Int) + 1) L) := HPUT
        clear HPUT hsp
        go_wp2_with fail
        refine HPUT2.out.mono ?_
        rintro e w2 ⟨rfl, hc2⟩
        have HC2 := hid hc2
        have b1 := HCELL2.out _ HC2.out.below
        clear b0
        go_wp2_with fail
        refine (HPIN.out _ HC2.out).mono ?_
        rintro e w3 ⟨rfl, hc3⟩
        have HC3 := hid hc3
        clear hc3 hc2 b1
        go_wp2_with fail
        go_roundw
        case rel => exact ⟨j + 1, L2, by omega, by go_num, HP6, HC3⟩
        case measure => (simp [intOf]; try omega)
      · obtain rfl : j = n := by omega
        have HK0 := hid (show Kept K sPinned l from (show Pinned K sPinned K.length l from by have := HP.out; rwa [HN.out] at this).kept)
        have HKPUT := hid (fun l (h : Kept K sPinned l) k (hm : (getP l k).2.2 = false) => h.put (t := ⟨#[120]⟩) k hm)
        have hKl := HN.out
        rw [← hKl] at HKPUT
        have HKN := hid hKl
        clear hKl HN HST HNEW
        go_wp2_with fail
        go_loopw [11] (fun i w2 => ∃ (q : Nat) (l : List CItem), q ≤ m ∧ i = .int .i64 (q : Int) ∧ Hid (Kept K sPinned l) ∧ Hid (InCache w w2 w.heap.size ((j : Int) + 1) l)) (fun i _ => m - (intOf i).toNat)
        case atStart => exact ⟨0, l, by omega, rfl, HK0, HC⟩
        case round =>
          clear HC HP HK0 hlt
          obtain ⟨q, l2, hq, rfl, HK2, HC2⟩ := hrel
          by_cases hlt2 : q < m
          · obtain ⟨b, off, rfl, a0⟩ := HMC.out q (by have := HM.out; omega)
            obtain ⟨ky, hky⟩ : ∃ x, M[q]'(by have := HM.out; omega) = x := ⟨_, rfl⟩
            rw [hky] at a0
            have HCELL := hid (show ∀ w2, Below w.heap.size w w2 → w2.cell? ⟨b, off + q, none⟩ = some (.int .i64 ky) from fun w2 hb => by
              rw [← a0]
              exact Below.cell hb (World.block_lt_of_cell? w _ a0))
            have b0 := HCELL.out _ HC2.out.below
            clear a0 hky
            have hlen2 := HK2.out.1
            have HGET := hid (HC2.out.get (by have := HKN.out; omega) ky)
            have HKG := hid (HK2.out.get ky)
            have HKP := hid (HKPUT.out l2 HK2.out ky)
            clear hlen2
            obtain ⟨⟨L, val, found⟩, hL⟩ : ∃ r, getP l2 ky = r := ⟨_, rfl⟩
            rw [hL] at HGET HKG HKP
            dsimp only at HGET HKG HKP
            clear hL
            have hj0 : (0 : Int) ≤ (q : Int) := by omega
            have hj1 : (q : Int) < (m : Int) := by omega
            go_wp2_with fail
            refine HGET.out.mono ?_
            rintro e w3 ⟨rfl, hc3⟩
            have HC3 := hid hc3
            clear hc3
            cases found with
            | true =>
              go_wp2_with fail
              go_roundw
              case rel => exact ⟨q + 1, L, by omega, by go_num, HKG, HC3⟩
              case measure => (simp [intOf]; try omega)
            | false =>
              have b1 := HCELL.out _ HC3.out.below
              clear b0
              have hlen3 := HKG.out.1
              have HPUT := hid (HC3.out.put (by have := HKN.out; omega) (by omega) ky ⟨#[120]⟩)
              have HKP2 := hid (HKP.out rfl)
              clear HKP hlen3
              obtain ⟨⟨L3, gone, out, er⟩, hL3⟩ : ∃ r, putP ((j : Int) + 1) L ky ⟨#[120]⟩ = r := ⟨_, rfl⟩
              rw [hL3] at HPUT HKP2
              obtain ⟨her, hk3⟩ := HKP2.out
              dsimp only at HPUT her hk3
              subst her
              have HK3 := hid hk3
              clear HKP2 hk3 hL3
              go_wp2_with fail
              refine HPUT.out.mono ?_
              rintro e w4 ⟨rfl, hc4⟩
              have HC4 := hid hc4
              clear hc4 b1
              go_wp2_with fail
              go_roundw
              case rel => exact ⟨q + 1, L3, by omega, by go_num, HK3, HC4⟩
              case measure => (simp [intOf]; try omega)
          · clear HMC HKPUT
            go_wp2_with fail
            go_loopw [17] (fun i w3 => ∃ (r : Nat) (l : List CItem), r ≤ j ∧ i = .int .i64 (r : Int) ∧ Hid (Kept K sPinned l) ∧ Hid (InCache w w3 w.heap.size ((j : Int) + 1) l)) (fun i _ => j - (intOf i).toNat)
            case atStart => exact ⟨0, l2, by omega, rfl, HK2, HC2⟩
            case round =>
              clear HC2 HK2 hq
              obtain ⟨r, l3, hr, rfl, HK3, HC3⟩ := hrel
              by_cases hlt3 : r < j
              · obtain ⟨b, off, rfl, a0⟩ := HKC.out r (by have := HKN.out; omega)
                obtain ⟨ky, hky⟩ : ∃ x, K[r]'(by have := HKN.out; omega) = x := ⟨_, rfl⟩
                rw [hky] at a0
                have b0 : (_ : World).cell? ⟨b, off + r, none⟩ = some (.int .i64 ky) := (Below.cell HC3.out.below (World.block_lt_of_cell? w _ a0)).trans a0
                have hgot := HK3.out.got ky (by rw [← hky]; exact List.getElem_mem _)
                clear a0 hky
                have hlen3 := HK3.out.1
                have HGET := hid (HC3.out.get (by have := HKN.out; omega) ky)
                have HKG := hid (HK3.out.get ky)
                clear hlen3
                obtain ⟨⟨L, val, found⟩, hL⟩ : ∃ r, getP l3 ky = r := ⟨_, rfl⟩
                rw [hL] at HGET HKG hgot
                dsimp only at HGET HKG hgot
                cases hgot
                clear hL
                have hj0 : (0 : Int) ≤ (r : Int) := by omega
                have hj1 : (r : Int) < (j : Int) := by omega
                have hsp := HS.out
                rw [hsp] at HGET
                clear hsp
                go_wp2_with fail
                refine HGET.out.mono ?_
                rintro e w4 ⟨rfl, hc4⟩
                have HC4 := hid hc4
                clear hc4 b0
                go_wp2_with fail
                go_roundw
                case rel => exact ⟨r + 1, L, by omega, by go_num, HKG, HC4⟩
                case measure => (simp [intOf]; try omega)
              · have HB3 := hid HC3.out.below
                go_wp2_with fail
                refine (HW.out _).mono ?_
                rintro e w5 ⟨rfl, b5⟩
                go_wp2_with fail
                go_ret
                exact ⟨rfl, Below.trans HB3.out (Below.mono b5 HB3.out.size)⟩
namespace LawCachePins
open Go.ChangeShapes Go.WideShapes Go.ChangeAt Go.RowKit
open Go.ChangeMaps (open_string shut_string)
theorem own : ownKnob Try.prog.godebug = none := by kernel_rfl
theorem laidOut : laidOutB Try.prog = true := by kernel_rfl
set_option maxRecDepth 100000 in
theorem lifted (os : Os) (started : os.Started) (H : Type) (enc : TypeId × Value → H) :
    ReturnsInHanded {} Try.checked os 3 .any (Rows.cachePinsSpec.pre6 enc Try.prog Try.f3 Rows.cachePinsRow.domain false) (Rows.cachePinsSpec.post enc Try.prog Try.f3 false true false false) := by
  refine returnsInHanded_of_change_sized (C := Try.checked) own started (by kernel_rfl) Try.func3
    (ChangeSpec.witness6 (enc := enc) (C := Try.checked) false ⟨#[], #[.slice none 0 0, .slice none 0 0], []⟩ 8 (by kernel_rfl) (by kernel_rfl) (by kernel_rfl) (by kernel_rfl)) ?_
  intro W base args ds gs before hval0 hW hcnd hsz _
  have hval : ∀ (j : Nat) t v, Try.f3.params[j]? = some t → args[j]? = some v → Value.okWide Try.prog W .any base t v := hval0
  have hW' := hW
  obtain ⟨p, q, hA0, hV, rfl, hfz, hnd⟩ := hW
  have hA : DataW.TrodAll enc Try.prog W 0 (fun _ => true) true Try.f3.params.toList args.toList ds p := hA0
  rw [Try.params3] at hA hval hsz
  obtain ⟨v0, vs0, d0, ds0, p0, q0, hargs, rfl, rfl, h0, r0⟩ := trodAll_cons hA
  obtain ⟨v1, vs1, d1, ds1, p1, q1, rfl, rfl, rfl, h1, r1⟩ := trodAll_cons r0
  obtain ⟨rfl, rfl, rfl⟩ := trodAll_nil r1
  obtain rfl : args = #[v0, v1] := by cases args; simp_all
  obtain ⟨rfl, rfl⟩ := trodVars_none hV
  obtain ⟨a0, n0, c0, rfl⟩ := okWide_slice Try.underlying22 (hval 0 22 v0 rfl rfl)
  have k0 := h0
  have lt0 : ∀ x ∈ p0, x.block < W.heap.size := by obtain ⟨m, hm⟩ := k0; exact DataW.trod_lt m _ _ _ hm
  obtain ⟨z0, w0⟩ : ∃ zs, IntRow .i64 8 W a0 n0 c0 zs := by
    obtain ⟨fuel, hf⟩ := h0
    rcases open_ints Try.underlying22 Try.underlying3 (by kernel_rfl) hf with ⟨hcs, _⟩ | ⟨x, l, c, zs, hcs, _, hl, hm, hz, hx, hcell, hwz⟩
    · simp [Value.cells] at hcs
      obtain ⟨rfl, rfl, rfl⟩ := hcs
      exact ⟨[], .inl ⟨rfl, rfl, rfl, rfl⟩⟩
    · simp [Value.cells] at hcs
      obtain ⟨rfl, rfl, rfl⟩ := hcs
      simp only [Prod.mk.injEq] at hx
      obtain ⟨rfl, _⟩ := hx
      have hre := sized_slice hsz (j := 0) (t := 22) rfl rfl Try.underlying22
      have hby : Try.checked.prog.bytesOf 3 = 8 := by kernel_rfl
      rw [hby] at hre
      simp only [lits, List.length_map, List.length_take, List.length_drop, reachBytes] at hre
      have hz' : zs.length = c0 := by simpa using hz
      exact ⟨zs, .inr ⟨_, rfl, hl, hm, hz', hcell, hwz, by rw [← hz']; omega⟩⟩
  obtain ⟨a1, n1, c1, rfl⟩ := okWide_slice Try.underlying22 (hval 1 22 v1 rfl rfl)
  have k1 := h1
  have lt1 : ∀ x ∈ p1, x.block < W.heap.size := by obtain ⟨m, hm⟩ := k1; exact DataW.trod_lt m _ _ _ hm
  obtain ⟨z1, w1⟩ : ∃ zs, IntRow .i64 8 W a1 n1 c1 zs := by
    obtain ⟨fuel, hf⟩ := h1
    rcases open_ints Try.underlying22 Try.underlying3 (by kernel_rfl) hf with ⟨hcs, _⟩ | ⟨x, l, c, zs, hcs, _, hl, hm, hz, hx, hcell, hwz⟩
    · simp [Value.cells] at hcs
      obtain ⟨rfl, rfl, rfl⟩ := hcs
      exact ⟨[], .inl ⟨rfl, rfl, rfl, rfl⟩⟩
    · simp [Value.cells] at hcs
      obtain ⟨rfl, rfl, rfl⟩ := hcs
      simp only [Prod.mk.injEq] at hx
      obtain ⟨rfl, _⟩ := hx
      have hre := sized_slice hsz (j := 1) (t := 22) rfl rfl Try.underlying22
      have hby : Try.checked.prog.bytesOf 3 = 8 := by kernel_rfl
      rw [hby] at hre
      simp only [lits, List.length_map, List.length_take, List.length_drop, reachBytes] at hre
      have hz' : zs.length = c1 := by simpa using hz
      exact ⟨zs, .inr ⟨_, rfl, hl, hm, hz', hcell, hwz, by rw [← hz']; omega⟩⟩
  clear hA0 hval0
  refine (Pins_walk a0 n0 c0 z0 a1 n1 c1 z1 W w0 w1).mono fun e W' ⟨he, bel⟩ => ?_
  subst he
  exact ⟨_, rfl, _, _, _, [], _, [], hW', trodAll_mk1 (shut_bool Try.underlying4 _), (trodAll_cons_mk (Below.trod laidOut (by kernel_rfl) (of_decide_eq_true (by kernel_rfl)) k0 bel lt0) (trodAll_cons_mk (Below.trod laidOut (by kernel_rfl) (of_decide_eq_true (by kernel_rfl)) k1 bel lt1) trodAll_mk0)), rfl, bel.frame _, fun h => by cases h⟩
theorem over : Rows.cachePinsRow.holds Try.pinned (OpenSpec.ofChange Rows.cachePinsSpec) :=
  OpenClaim.holds_of_wide 3 Try.f3 rfl rfl rfl rfl rfl rfl rfl ⟨rfl, rfl, rfl, rfl, rfl⟩ rfl rfl rfl rfl rfl (by kernel_rfl) Try.func3 (by kernel_rfl)
    (of_decide_eq_true (by kernel_rfl)) (by unfold Func.isWrapper; first | (rw [if_pos (by decide +kernel)]; kernel_rfl) | (rw [if_neg (by decide +kernel)]; exact ⟨rfl, rfl⟩))
    (fun os started H enc _ => lifted os started H enc)
end LawCachePins
/-- The given statement. -/
theorem cachePins_proved : Rows.CachePinsSaid := LawCachePins.over
#print axioms cachePins_proved
end Go.Proofs.Ytjccfodadiaokaa
