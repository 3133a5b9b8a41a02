/- What the reference's Pack computes. -/
import Derived.Test.YtcfkcdfjianeiaaJMem
import Derived.Test.YtcfkcdfjianeiaaFixed
namespace Go.Proofs.Ytcfkcdfjianeiaa
open Go.RowKit
set_option linter.unusedVariables false
set_option linter.unusedSimpArgs false
theorem bytes_adJ (a b : List UInt8) : (⟨a.toArray⟩ : ByteArray) ++ ⟨b.toArray⟩ = ⟨(a ++ b).toArray⟩ := by
  apply ByteArray.ext
  simp [ByteArray.data_append]
theorem chunk_full {T : List UInt8} {j : Nat} (h : 256 * j + 256 ≤ T.length) : (T.drop (256 * j)).take 256 = chunk T j := by
  unfold chunk
  rw [fillL_full]
  rw [List.length_take, List.length_drop]
  omega
theorem chunk_last {T : List UInt8} {j : Nat} (h : T.length ≤ 256 * j + 256) : fillL (T.drop (256 * j)) = chunk T j := by
  unfold chunk
  rw [List.take_of_length_le]
  rw [List.length_drop]
  omega
set_option maxRecDepth 100000 in
set_option maxHeartbeats 4000000 in
theorem RPack_c (l : List PageR) (v : Value) (w : World) (hp : Pages w v l) (hf : ∀ p ∈ l, -9223372036854775808 ≤ p.pos ∧ p.pos ≤ 9223372036854775807 ∧ p.data.size ≤ 9223372036854775807) : Calls Try.prog 9 #[v] w (PackPost l w) := by
  obtain ⟨pa, cap, rfl, hn, hc⟩ := hp
  by_cases hbig : 1024 < l.length
  · obtain ⟨e1, e2⟩ := pack_many hbig
    unfold PackPost
    rw [e1, e2]
    clear e1 e2 hc hf
    generalize l.length = n at *
    have hb' : (1024 : Int) < (n : Int) := by omega
    go_enter Try.func9, Try.ntmps9
    go_wp2_with fail
    go_ret2
    exact ⟨.slice none 0 0, rfl, Texts.nil _, Grow.refl _⟩
  · have HBAD := hid (fun e (h : firstBad l = e) h0 => pack_bad hbig h h0)
    have HOK := hid (pack_ok (l := l) hbig)
    have HFB := hid (firstBad_take l)
    have HFN := hid (firstBad_none l)
    have HC := hid (show ∀ k (h : k < l.length), ∃ (b off : Nat), pa = some ⟨b, off, none⟩ ∧ w.cell? ⟨b, off + k * 2, none⟩ = some (.int .i64 l[k].pos) ∧ w.cell? ⟨b, off + k * 2 + 1, none⟩ = some (.string l[k].data) from fun k hk => by
      obtain ⟨b, off, e, H⟩ := hc (by omega)
      exact ⟨b, off, e, H k hk⟩)
    have HF := hid hf
    have hb' : ¬ (1024 : Int) < (l.length : Int) := by omega
    have HW := hid (fun n (w : World) h => RFixed_c n 4 w h (by decide) (by decide))
    have hFn := hid (HW.out l.length)
    have hw0 := hid (show IntKind.u64.wrap (l.length : Int) = (l.length : Int) by rw [IntKind.wrap_u64]; omega)
    clear hc hf
    unfold PackPost
    go_enter Try.func9, Try.ntmps9
    go_wp2_with fail
    refine (hFn.out _ (by omega)).mono ?_
    rintro e w1 ⟨rfl, b1⟩
    have hq0 := hid (show (⟨(leB (min (4 : Int).toNat 8) l.length).toArray⟩ : ByteArray) = ⟨(leB 4 l.length ++ posL (l.take 0)).toArray⟩ by simp [posL] <;> rfl)
    go_wp2_with fail
    go_loopw [4, 5] (fun s i wr => ∃ (k : Nat) (S : ByteArray), k ≤ l.length ∧ i = .int .i64 (k : Int) ∧ s = .string S ∧ Hid (S = ⟨(leB 4 l.length ++ posL (l.take k)).toArray⟩) ∧ Hid (∀ j (hj : j < l.length), j < k → badP l[j] = 0) ∧ Grow w wr) (fun _ i _ => l.length - (intOf i).toNat)
    case atStart => exact ⟨0, _, by omega, rfl, rfl, hq0, hid (fun j _ hj => absurd hj (by omega)), b1⟩
    case round =>
      obtain ⟨k, S, hk, rfl, rfl, HS, HG, hg⟩ := hrel
      have hpl := posL_length (l.take k)
      rw [List.length_take, Nat.min_eq_left (by omega)] at hpl
      have hSz : S.size ≤ 4 * k + 4 := by rw [HS.out, bytes_szJ, List.length_append, leB_length, hpl]; omega
      by_cases hlt : k < l.length
      · obtain ⟨b, off, rfl, hc0, hc1⟩ := HC.out k hlt
        replace hc0 := hg.cellJ hc0
        replace hc1 := hg.cellJ hc1
        have hfk := HF.out l[k] (List.getElem_mem hlt)
        have hlt' : (k : Int) < (l.length : Int) := by omega
        have hk0 : (0 : Int) ≤ (k : Int) := by omega
        by_cases hbad : badP l[k] = 0
        · have HG2 := hid (show ∀ j (hj : j < l.length), j < k + 1 → badP l[j] = 0 from fun j hj hjk => by
            rcases Nat.lt_or_ge j k with h | h
            · exact HG.out j hj h
            · obtain rfl : j = k := by omega
              exact hbad)
          have HT := hid (posL_take l k hlt)
          have hpos : 0 ≤ l[k].pos ∧ l[k].pos < 2048 ∧ l[k].data.size ≤ 256 := by
            unfold badP at hbad
            split at hbad
            · omega
            · split at hbad <;> omega
          generalize hL : l[k] = P at *
          obtain ⟨pos, data⟩ := P
          simp only at hc0 hc1 HT hpos hfk
          obtain ⟨p0, p1, p2⟩ := hpos
          have hA := HW.out pos.toNat
          have hm : ((pos.toNat : Nat) : Int) = pos := by omega
          rw [hm] at hA
          have HX := hid (show S ++ (⟨(leB (min (4 : Int).toNat 8) pos.toNat).toArray⟩ : ByteArray) = ⟨(leB 4 l.length ++ posL (l.take (k + 1))).toArray⟩ by rw [HS.out, bytes_adJ, HT.out, List.append_assoc]; rfl)
          have hz : (⟨(leB (min (4 : Int).toNat 8) pos.toNat).toArray⟩ : ByteArray).size = 4 := by rw [bytes_szJ, leB_length]; rfl
          generalize (⟨(leB (min (4 : Int).toNat 8) pos.toNat).toArray⟩ : ByteArray) = Z at *
          replace hA := hid hA
          have hw1 : IntKind.u64.wrap pos = pos := by rw [IntKind.wrap_u64]; omega
          have d1 : decide (pos < 0) = false := by simp; omega
          have d2 : decide (2048 ≤ pos) = false := by simp; omega
          have d3 : ¬ (256 : Int) < (data.size : Int) := by omega
          have hq : ¬ 9223372036854775807 < S.size + Z.size := by omega
          clear hbad hL hm
          go_wp2_with fail
          refine (hA.out _ (by omega)).mono ?_
          rintro e w3 ⟨rfl, b3⟩
          have g3 : Grow w w3 := Grow.trans hg b3
          go_wp2_with fail
          go_roundw
          case rel => exact ⟨k + 1, _, by omega, by go_num, rfl, HX, HG2, g3⟩
          case measure => simp [intOf]; omega
        · have HE := HBAD.out _ (HFB.out k hlt HG.out hbad) hbad
          unfold badP at hbad HE
          generalize l[k] = P at *
          obtain ⟨pos, data⟩ := P
          simp only at hc0 hc1 hbad hfk HE
          by_cases h1 : pos < 0
          · rw [if_pos (Or.inl h1)] at HE
            have HE2 := hid HE
            have d1 : decide (pos < 0) = true := by simp; omega
            clear hbad HE
            go_wp2_with fail
            go_ret2
            refine ⟨.slice none 0 0, ?_, ?_, hg⟩
            · rw [HE2.out.1]; rfl
            · rw [HE2.out.2]; exact Texts.nil _
          · have d1 : decide (pos < 0) = false := by simp; omega
            by_cases h2 : 2048 ≤ pos
            · rw [if_pos (Or.inr h2)] at HE
              have HE2 := hid HE
              have d2 : decide (2048 ≤ pos) = true := by simp; omega
              clear hbad HE
              go_wp2_with fail
              go_ret2
              refine ⟨.slice none 0 0, ?_, ?_, hg⟩
              · rw [HE2.out.1]; rfl
              · rw [HE2.out.2]; exact Texts.nil _
            · rw [if_neg (by omega)] at hbad HE
              have h3 : 256 < data.size := by
                rcases Nat.lt_or_ge 256 data.size with h | h
                · exact h
                · rw [if_neg (by omega)] at hbad; exact absurd rfl hbad
              rw [if_pos h3] at HE
              have HE2 := hid HE
              have d2 : decide (2048 ≤ pos) = false := by simp; omega
              have d3 : (256 : Int) < (data.size : Int) := by omega
              clear hbad HE
              go_wp2_with fail
              go_ret2
              refine ⟨.slice none 0 0, ?_, ?_, hg⟩
              · rw [HE2.out.1]; rfl
              · rw [HE2.out.2]; exact Texts.nil _
      · obtain rfl : k = l.length := by omega
        have HOKK := hid (HOK.out (HFN.out fun j hj => HG.out j hj hj))
        rw [List.take_length] at HS
        rw [show leB 4 l.length ++ posL l = tabL l from rfl] at HS
        have htl := tabL_length l
        have HMT := hid (fun q (h : q < l.length) => (show (l.map fun p => fillL p.data.data.toList).take (q + 1) = (l.map fun p => fillL p.data.data.toList).take q ++ [fillL l[q].data.data.toList] from by rw [← List.map_take, map_take_snoc l _ q h, List.map_take]))
        have HML := hid (show (l.map fun p => fillL p.data.data.toList).take l.length = (l.map fun p => fillL p.data.data.toList) from List.take_of_length_le (by simp))
        have hMlen : (l.map fun p => fillL p.data.data.toList).length = l.length := by simp
        have HFU := hid (fun s w hs => Filled_c s w hs)
        have hHH : headsN l.length * 256 < 4 * l.length + 4 + 256 ∧ 4 * l.length + 4 ≤ headsN l.length * 256 := by unfold headsN; omega
        generalize hHd : headsN l.length = H at *
        have HBL := hid (show blocksL l = (List.range H).map (chunk (tabL l)) ++ l.map fun p => fillL p.data.data.toList by unfold blocksL; rw [hHd])
        clear hHd hpl hSz
        generalize tabL l = T at *
        generalize (l.map fun p => fillL p.data.data.toList) = M at *
        have HTL := hid htl
        have HMlen := hid hMlen
        clear htl hMlen
        have HS0 := hid (show S = ⟨(T.drop (256 * 0)).toArray⟩ by rw [HS.out]; rfl)
        go_wp2_with fail
        go_loopw [4, 6] (fun sv v wr => ∃ (j : Nat) (S : ByteArray), j < H ∧ sv = .string S ∧ Hid (S = ⟨(T.drop (256 * j)).toArray⟩) ∧ wr.ownsRow w.heap.size 9 1 v j (strs ((List.range j).map (chunk T))) ∧ Grow w wr) (fun sv _ _ => match sv with | .string S => S.size | _ => 0)
        case atStart => exact ⟨0, _, by omega, rfl, HS0, World.ownsRow_nil _ _ _ _, hg⟩
        case round =>
          obtain ⟨j, S, hj, rfl, HS, hown, hg⟩ := hrel
          have hsz := hg.size
          have hSz : S.size = 4 * l.length + 4 - 256 * j := by rw [HS.out, bytes_szJ, List.length_drop, HTL.out]
          have hR := hid (range_snoc (chunk T) j)
          by_cases hbg : 256 < S.size
          · have e1 := hid (show S.extract 0 256 = ⟨(chunk T j).toArray⟩ by
              rw [← chunk_full (by rw [HTL.out]; omega), HS.out]
              apply ByteArray.ext
              apply Array.toList_inj.1
              simp [ByteArray.data_extract])
            have HS2 := hid (show S.extract 256 S.size = ⟨(T.drop (256 * (j + 1))).toArray⟩ by
              rw [show 256 * (j + 1) = 256 * j + 256 by omega, ← List.drop_drop, HS.out]
              apply ByteArray.ext
              apply Array.toList_inj.1
              simp only [ByteArray.data_extract, Array.toList_extract, List.extract_eq_take_drop]
              rw [List.take_of_length_le (by simp [ByteArray.size]; try omega)])
            have hj2 : j + 1 < H := by omega
            have hb1 : (256 : Int) < (S.size : Int) := by omega
            have hb2 : (256 : Int) ≤ (S.size : Int) := by omega
            clear hSz
            go_wp2_with (at_builtin; refine wpList_push rfl _ _ 24 rfl 9 (.string ⟨#[]⟩) 1 16 Try.underlying24 infoStr rfl (by omega) w.heap.size _ j _ rfl hown [_] rfl rfl (by simp [Value.oneCell']) (by unfold maxLen; omega) (by omega) hsz ?_)
            intro v' w' ho hgr hs'
            rw [e1.out, strs_snoc, ← hR.out] at ho
            have hg2 : Grow w w' := Row.below hg hgr hsz (fun k hk => (hown.lt k hk).1)
            clear hown hgr hg
            go_wp2_with fail
            go_roundw
            case rel => exact ⟨j + 1, _, hj2, rfl, HS2, ho, hg2⟩
            case measure => simp; omega
          · have hjH : j + 1 = H := by omega
            have hb1 : ¬ (256 : Int) < (S.size : Int) := by omega
            have hSd : S.data.toList = T.drop (256 * j) := by rw [HS.out]
            have hFu := fun w => HFU.out S w (by omega)
            rw [hSd, chunk_last (by rw [HTL.out]; omega)] at hFu
            replace hFu := hid hFu
            clear hSz hSd
            generalize chunk T j = Cj at *
            go_wp2_with fail
            refine (hFu.out _).mono ?_
            rintro e w5 ⟨rfl, b5⟩
            go_wp2_with (at_builtin; refine wpList_push rfl _ _ 24 rfl 9 (.string ⟨#[]⟩) 1 16 Try.underlying24 infoStr rfl (by omega) w.heap.size _ j _ rfl (own_growJ hown b5) [_] rfl rfl (by simp [Value.oneCell']) (by unfold maxLen; omega) (by omega) (Nat.le_trans hsz b5.size) ?_)
            intro v' w' ho hgr hs'
            rw [strs_snoc, ← hR.out, hjH] at ho
            have hg2 : Grow w w' := Row.below (Grow.trans hg b5) hgr (Nat.le_trans hsz b5.size) (fun k hk => (hown.lt k hk).1)
            clear hown hgr hg hjH hR
            go_wp2_with fail
            go_loopw [7, 6] (fun i v wr => ∃ (q : Nat), q ≤ l.length ∧ i = .int .i64 (q : Int) ∧ wr.ownsRow w.heap.size 9 1 v (H + q) (strs ((List.range H).map (chunk T) ++ M.take q)) ∧ Grow w wr) (fun i _ _ => l.length - (intOf i).toNat)
            case atStart => exact ⟨0, by omega, rfl, by simpa using ho, hg2⟩
            case round =>
              obtain ⟨q, hq, rfl, hown2, hg2⟩ := hrel
              have hsz := hg2.size
              by_cases hltq : q < l.length
              · obtain ⟨b, off, rfl, hc0, hc1⟩ := HC.out q hltq
                replace hc0 := hg2.cellJ hc0
                replace hc1 := hg2.cellJ hc1
                have hgood := HG.out q hltq hltq
                have hR := hid (HMT.out q hltq)
                have hq1 : (q : Int) < (l.length : Int) := by omega
                have hq0 : (0 : Int) ≤ (q : Int) := by omega
                have hd : l[q].data.size ≤ 256 := by
                  unfold badP at hgood
                  split at hgood
                  · omega
                  · split at hgood <;> omega
                clear hgood
                generalize l[q] = P at *
                obtain ⟨pos, data⟩ := P
                simp only at hc0 hc1 hd hR
                have hFu := hid (fun w => HFU.out data w hd)
                generalize fillL data.data.toList = D at *
                go_wp2_with fail
                refine (hFu.out _).mono ?_
                rintro e w5 ⟨rfl, b5⟩
                go_wp2_with (at_builtin; refine wpList_push rfl _ _ 24 rfl 9 (.string ⟨#[]⟩) 1 16 Try.underlying24 infoStr rfl (by omega) w.heap.size _ (H + q) _ rfl (own_growJ hown2 b5) [_] rfl rfl (by simp [Value.oneCell']) (by unfold maxLen; omega) (by omega) (Nat.le_trans hsz b5.size) ?_)
                intro v' w' ho hgr hs'
                rw [strs_snoc, List.append_assoc, ← hR.out] at ho
                have hg3 : Grow w w' := Row.below (Grow.trans hg2 b5) hgr (Nat.le_trans hsz b5.size) (fun k hk => (hown2.lt k hk).1)
                clear hown2 hgr hg2
                go_wp2_with fail
                go_roundw
                case rel => exact ⟨q + 1, by omega, by go_num, ho, hg3⟩
                case measure => simp [intOf]; omega
              · obtain rfl : q = l.length := by omega
                rw [HML.out] at hown2
                have hT := hid (Texts.of_own hown2 (by rw [List.length_append, HMlen.out]; simp) (by omega))
                clear hown2
                go_wp2_with fail
                go_ret2
                have hTT := hT.out
                rw [← HBL.out, ← HOKK.out.2] at hTT
                refine ⟨_, ?_, hTT, hg2⟩
                rw [HOKK.out.1]; rfl
end Go.Proofs.Ytcfkcdfjianeiaa
