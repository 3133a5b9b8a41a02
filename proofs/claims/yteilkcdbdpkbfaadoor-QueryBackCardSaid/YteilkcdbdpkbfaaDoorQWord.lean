/- The word of a field's value. -/
import Derived.Test.YteilkcdbdpkbfaaDoorQSmall
import Derived.Test.YteilkcdbdpkbfaaDoorLexToks
namespace Go.Proofs.YteilkcdbdpkbfaaDoor
open Go.RowKit
set_option linter.unusedVariables false
set_option linter.unusedSimpArgs false
def tabSpace (w : World) : Prop := Lib.TabIs Tryd.prog w "strings.asciiSpace" .u8 Lib.asciiSpaceTab
def tabPow (w : World) : Prop := Lib.TabIs Tryd.prog w "internal/strconv.uint64pow10" .u64 Lib.pow10Tab
theorem tab_grow {w w' : World} {name : String} {k : IntKind} {zs : List Int} (h : Lib.TabIs Tryd.prog w name k zs) (hg : Grow w w') : Lib.TabIs Tryd.prog w' name k zs := by
  unfold Lib.TabIs World.var? at h ⊢
  revert h
  cases Tryd.prog.globalNamed name with
  | none => exact fun h => h
  | some g =>
    simp only [Option.bind_some]
    cases ho : w.heap[g]? with
    | none => intro h; cases h
    | some o => rw [hg.heap ho]; exact fun h => h
/-- All the words there are. -/
def allText : ByteArray := ⟨(([114, 101, 103, 105, 115, 116, 101, 114, 32, 99, 111, 117, 110, 116, 101, 114, 32, 113, 117, 101, 117, 101, 32, 115, 116, 97, 99, 107, 32, 115, 101, 116, 32, 109, 117, 116, 101, 120, 32, 114, 101, 97, 100, 32, 119, 114, 105, 116, 101, 32, 99, 97, 115, 32, 105, 110, 99, 32] : List UInt8).append [100, 101, 99, 32, 101, 110, 113, 32, 100, 101, 113, 32, 112, 117, 115, 104, 32, 112, 111, 112, 32, 97, 100, 100, 32, 114, 101, 109, 111, 118, 101, 32, 104, 97, 115, 32, 108, 111, 99, 107, 32, 117, 110, 108, 111, 99, 107, 32, 116, 114, 117, 101, 32, 102, 97, 108, 115, 101]).toArray⟩
def allWords : List ByteArray := kindNames ++ methNames ++ [sTrue, sFalse]
/-- The first of these words that has that value. -/
def wordF (f : ByteArray) (n : Int) : List ByteArray → ByteArray × Bool
  | [] => (⟨#[]⟩, false)
  | s :: l => if (valueQ f s).2 = true ∧ (valueQ f s).1 = n then (s, true) else wordF f n l
def wordP (f : ByteArray) (n : Int) : ByteArray × Bool := wordF f n allWords
theorem allText_fields : (Lib.fields allText.data.toList).map (fun l => Value.string ⟨l.toArray⟩) = allWords.map Value.string := by kernel_rfl
theorem allText_ascii : ∀ (j : Nat) (b : UInt8), allText.data.toList[j]? = some b → b.toNat < 128 := by
  intro j b h
  have hm := List.mem_of_getElem? h
  have : ∀ b ∈ allText.data.toList, b.toNat < 128 := by decide +kernel
  exact this b hm
theorem allWords_len : allWords.length = 22 := rfl
theorem fieldsAll_c (w : World) (ht : tabSpace w) : Calls Tryd.prog 52 #[.string allText] w fun e w' => e = .returned (.slice (some ⟨w.heap.size, 0, none⟩) 22 22) ∧ w'.heap[w.heap.size]? = some (.cells (allWords.map Value.string).toArray 9) ∧ Grow w w' := by
  refine (Tryd.strings_Fields_laid allText w (by decide +kernel) allText_ascii ht).mono ?_
  rintro e w' ⟨he, hw⟩
  rw [allText_fields] at hw
  rw [show (Lib.fields allText.data.toList).length = 22 from by kernel_rfl] at he
  subst hw
  exact ⟨he, heap_new _ _, Grow.alloc _ _⟩
set_option maxRecDepth 100000 in
set_option maxHeartbeats 4000000 in
theorem word_c (f : ByteArray) (n : Int) (w : World) (ht : tabSpace w) : Calls Tryd.prog 31 #[.string f, .int .i64 n] w fun e w' => e = .returned (.tuple #[.string (wordP f n).1, .bool (wordP f n).2]) ∧ Grow w w' := by
  have C := hid (fieldsAll_c w ht)
  have HV := hid (fun s w' => valueOf_c f s w')
  have HW := hid (show wordP f n = wordF f n (allWords.drop 0) from rfl)
  have HL := hid (fun i (h : i < allWords.length) => show wordF f n (allWords[i] :: allWords.drop (i + 1)) = if (valueQ f allWords[i]).2 = true ∧ (valueQ f allWords[i]).1 = n then (allWords[i], true) else wordF f n (allWords.drop (i + 1)) from rfl)
  have HD := hid (fun i (h : i < allWords.length) => List.drop_eq_getElem_cons h)
  have HE := hid (show wordF f n (allWords.drop 22) = (⟨#[]⟩, false) from rfl)
  have HC := hid (fun i (h : i < allWords.length) => show (allWords.map Value.string).toArray[i]? = some (.string allWords[i]) from by simp [h])
  clear ht
  go_enter Tryd.func31, Tryd.ntmps31
  go_wp2_with fail
  refine (C.out).mono ?_
  rintro e w1 ⟨rfl, hB, g1⟩
  replace hB := hid hB
  generalize w.heap.size = H at *
  generalize hWP : wordP f n = WP at *
  replace hWP := hid hWP
  have G1 := hid g1
  clear g1 C
  go_wp2_with fail
  go_loopw [12] (fun i wr => ∃ j : Nat, j ≤ 22 ∧ i = .int .i64 (j : Int) ∧ Hid (WP = wordF f n (allWords.drop j)) ∧ Hid (Grow w1 wr)) (fun i _ => 22 - (intOf i).toNat)
  case atStart => exact ⟨0, by omega, rfl, HW, hid (Grow.refl _)⟩
  case round =>
    obtain ⟨j, hj, rfl, HWj, HG⟩ := hrel
    by_cases hlt : j < 22
    · have hl2 : j < allWords.length := by rw [allWords_len]; exact hlt
      have c0 : wr.cell? ⟨H, j, none⟩ = some (.string allWords[j]) := by rw [heap_cell (HG.out.heap hB.out)]; exact HC.out j hl2
      have hz := heap_lt (HG.out.heap hB.out)
      have hst := HWj.out
      rw [HD.out j hl2, HL.out j hl2] at hst
      have HV2 := hid (fun w' => HV.out allWords[j] w')
      replace hst := hid hst
      generalize allWords[j] = s at *
      generalize valueQ f s = vq at *
      obtain ⟨x, ok⟩ := vq
      have i1 : (j : Int) < 22 := by omega
      have i0 : (0 : Int) ≤ (j : Int) := by omega
      clear HV HC HD HL
      go_wp2_with fail
      refine (HV2.out _).mono ?_
      rintro e w5 ⟨rfl, g5⟩
      have G5 := hid g5
      clear g5 HV2 c0
      by_cases hc : ok = true ∧ x = n
      · obtain ⟨rfl, rfl⟩ := hc
        have hr := hid (hst.out.trans (if_pos ⟨rfl, rfl⟩))
        go_wp2_with fail
        go_ret2
        exact ⟨by rw [hWP.out, hr.out]; rfl, (G1.out.trans HG.out).trans G5.out⟩
      · have hr := hid (hst.out.trans (if_neg hc))
        have hways : ok = false ∨ (ok = true ∧ (x == n) = false) := by
          cases ok
          · exact .inl rfl
          · exact .inr ⟨rfl, by simpa using fun e => hc ⟨rfl, e⟩⟩
        clear hc
        rcases hways with rfl | ⟨rfl, hx⟩
        all_goals
          go_wp2_with fail
          go_roundw
          case rel => exact ⟨j + 1, by omega, by go_num, hr, hid (HG.out.trans G5.out)⟩
          case measure => simp [intOf]; omega
    · obtain rfl : j = 22 := by omega
      have hr := hid (HWj.out.trans HE.out)
      go_wp2_with fail
      go_ret2
      exact ⟨by rw [hWP.out, hr.out]; rfl, G1.out.trans HG.out⟩
end Go.Proofs.YteilkcdbdpkbfaaDoor
