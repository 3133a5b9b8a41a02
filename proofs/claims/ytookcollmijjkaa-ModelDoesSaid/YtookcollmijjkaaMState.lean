/- What model.State and the reference's State compute. -/
import Derived.Test.YtookcollmijjkaaMText
import Derived.Test.YtookcollmijjkaaUnvar
import Derived.Test.YtookcollmijjkaaRUnvar
namespace Go.Proofs.Ytookcollmijjkaa
open Go.RowKit
set_option linter.unusedVariables false
set_option linter.unusedSimpArgs false
theorem infoIntM : Info Try.prog 3 (.int .i64 0) 1 8 := by unfold Info; kernel_rfl
theorem push_intM (xs : List Int) (x : Int) : i64s xs ++ [.int .i64 x] = i64s (xs ++ [x]) := by simp [i64s]
theorem own_growM {w w' : World} {base : Nat} {e : TypeId} {size : Nat} {v : Value} {n : Nat} {xs : List Value} (h : w.ownsRow base e size v n xs) (hg : Grow w w') : w'.ownsRow base e size v n xs :=
  h.kept (row := none) ⟨hg.os, hg.tape, hg.output, hg.size, fun k hk _ => hg.block k hk⟩ (by cases v.ownBlock <;> simp)
theorem own_formM {w : World} {base : Nat} {e : TypeId} {size : Nat} {v : Value} {n : Nat} {xs : List Value} (h : w.ownsRow base e size v n xs) : ∃ A c, v = .slice A n c := by
  rcases h.2 with ⟨rfl, rfl⟩ | ⟨g, cap, cur, rfl, _⟩
  · exact ⟨_, _, rfl⟩
  · exact ⟨_, _, rfl⟩
theorem rest_bytesM (s : ByteArray) (i : Nat) : (s.extract i s.size).data.toList = s.data.toList.drop i := by
  have : s.data.toList.drop i = (s.data.toList.drop i).take (s.size - i) := by rw [List.take_of_length_le (by simp)]
  rw [this]
  simp [ByteArray.data_extract]
/-- What is left of the reading, the numbers so far ahead of it. -/
def fin (acc : List Int) (a : Nat) : Option (List Int × Nat) → List Int × Nat
  | none => ([], 0)
  | some (l, i) => (acc ++ l, a + i)
theorem fin_step {acc : List Int} {a m : Nat} {L : List UInt8} (hk : (unvarP (L.drop a)).2 ≠ 0) :
    fin acc a (rdN (m + 1) (L.drop a)) = fin (acc ++ [unfoldV ((unvarP (L.drop a)).1 : Int)]) (a + (unvarP (L.drop a)).2) (rdN m (L.drop (a + (unvarP (L.drop a)).2))) := by
  rw [rdN_step hk, List.drop_drop]
  cases rdN m (L.drop (a + (unvarP (L.drop a)).2)) with
  | none => rfl
  | some p => simp only [fin, Option.map_some, List.append_assoc, List.cons_append, List.nil_append]; rw [Nat.add_assoc]
theorem fin_fail {acc : List Int} {a m : Nat} {L : List UInt8} (hk : (unvarP (L.drop a)).2 = 0) : fin acc a (rdN (m + 1) (L.drop a)) = ([], 0) := by rw [rdN_fail hk]; rfl
def StatePost (R : List Int × Nat) (w : World) (e : Ending) (w' : World) : Prop := ∃ v, e = .returned (.tuple #[v, .int .i64 (R.2 : Int)]) ∧ Ints w' v R.1 ∧ Grow w w'
set_option maxRecDepth 100000 in
set_option maxHeartbeats 4000000 in
theorem State_c (s : ByteArray) (w : World) (hs : s.size ≤ 9223372036854775807) (hn : (unvarP s.data.toList).1 ≤ 17592186044416 ∨ s.size < (unvarP s.data.toList).1) :
    Calls Try.prog 18 #[.string s] w (StatePost (stateL s.data.toList) w) := by
  have hU := fun w => Unvar_c s w (by unfold maxLen; omega)
  have HUA := hid (fun a (w : World) => Unvar_c (s.extract a s.size) w (by rw [ByteArray.size_extract]; unfold maxLen; omega))
  obtain ⟨u1, u2, u3, u4⟩ := unvarP_bd s.data.toList
  have hl : s.data.toList.length = s.size := by simp
  have hR0 : stateL s.data.toList = if (unvarP s.data.toList).2 = 0 ∨ s.data.toList.length < (unvarP s.data.toList).1 then ([], 0) else fin [] (unvarP s.data.toList).2 (rdN (unvarP s.data.toList).1 (s.data.toList.drop (unvarP s.data.toList).2)) := by
    unfold stateL fin
    split
    · rfl
    · cases rdN (unvarP s.data.toList).1 (s.data.toList.drop (unvarP s.data.toList).2) <;> simp
  rw [hl] at hR0 u3
  generalize hR : stateL s.data.toList = R at *
  clear hR
  generalize hn1 : (unvarP s.data.toList).1 = n at *
  generalize hk1 : (unvarP s.data.toList).2 = k at *
  clear hn1 hk1 u4
  have HU := hid hU
  clear hU hl
  by_cases hk : k = 0
  · rw [if_pos (.inl hk)] at hR0
    have HR := hid hR0
    clear hR0
    subst hk
    go_enter Try.func18, Try.ntmps18
    go_wp2_with fail
    refine (HU.out _).mono ?_
    rintro e w1 ⟨rfl, rfl⟩
    go_wp2_with fail
    go_ret2
    refine ⟨.slice none 0 0, ?_, ?_, Grow.refl _⟩
    · rw [HR.out]; rfl
    · rw [HR.out]; exact Ints.nil _
  · have hk0 : ((k : Int) == 0) = false := by simp; omega
    have hw0 : IntKind.u64.wrap (s.size : Int) = (s.size : Int) := by rw [IntKind.wrap_u64]; omega
    by_cases hb : s.size < n
    · rw [if_pos (.inr hb)] at hR0
      have HR := hid hR0
      have hb' : (s.size : Int) < (n : Int) := by omega
      clear hR0 hk
      go_enter Try.func18, Try.ntmps18
      go_wp2_with fail
      refine (HU.out _).mono ?_
      rintro e w1 ⟨rfl, rfl⟩
      go_wp2_with fail
      go_ret2
      refine ⟨.slice none 0 0, ?_, ?_, Grow.refl _⟩
      · rw [HR.out]; rfl
      · rw [HR.out]; exact Ints.nil _
    · rw [if_neg (by omega)] at hR0
      have HR := hid hR0
      have hb' : ¬ (s.size : Int) < (n : Int) := by omega
      have hnb : n ≤ 17592186044416 := by omega
      clear hR0 hk hn
      go_enter Try.func18, Try.ntmps18
      go_wp2_with fail
      refine (HU.out _).mono ?_
      rintro e w1 ⟨rfl, rfl⟩
      go_wp2_with fail
      go_loopw [24, 6, 5] (fun c v at_ wr => ∃ (j a : Nat) (acc : List Int), j ≤ n ∧ c = .int .u64 (j : Int) ∧ at_ = .int .i64 (a : Int) ∧ a ≤ s.size ∧ acc.length = j ∧ wr.ownsRow w.heap.size 3 1 v j (i64s acc) ∧ Hid (R = fin acc a (rdN (n - j) (s.data.toList.drop a))) ∧ Grow w wr) (fun c _ _ _ => n - (intOf c).toNat)
      case atStart => exact ⟨0, k, [], by omega, rfl, rfl, by omega, rfl, World.ownsRow_nil _ _ _ _, HR, Grow.refl _⟩
      case round =>
        obtain ⟨j, a, acc, hj, rfl, rfl, ha, hal, hown, HK, hg⟩ := hrel
        clear HR
        have hsz := hg.size
        by_cases hlt : j < n
        · obtain ⟨m, hm⟩ : ∃ m, n - j = m + 1 := ⟨n - j - 1, by omega⟩
          have hUa := HUA.out a
          rw [rest_bytesM] at hUa
          obtain ⟨v1, v2, v3, _⟩ := unvarP_bd (s.data.toList.drop a)
          rw [List.length_drop] at v3
          have hl2 : s.data.toList.length = s.size := by simp
          rw [hl2] at v3
          have HK1 := HK.out
          rw [hm] at HK1
          have hj1 : (j : Int) < (n : Int) := by omega
          have ha0 : (0 : Int) ≤ (a : Int) := by omega
          have ha1 : (a : Int) ≤ (s.size : Int) := by omega
          by_cases hkk : (unvarP (s.data.toList.drop a)).2 = 0
          · rw [fin_fail hkk] at HK1
            rw [hkk] at hUa
            have HR := hid HK1
            have HUa := hid hUa
            clear HK1 hUa hm hkk v1 v2 v3 hl2 hown hal
            go_wp2_with fail
            refine (HUa.out _).mono ?_
            rintro e w1 ⟨rfl, rfl⟩
            go_wp2_with fail
            go_ret2
            refine ⟨.slice none 0 0, ?_, ?_, hg⟩
            · rw [HR.out]; rfl
            · rw [HR.out]; exact Ints.nil _
          · rw [fin_step hkk] at HK1
            rw [show m = n - (j + 1) by omega] at HK1
            have hUf := fun w => Unfold_c ((unvarP (s.data.toList.drop a)).1 : Int) w (by omega) (by omega)
            generalize (unvarP (s.data.toList.drop a)).1 = u at *
            generalize (unvarP (s.data.toList.drop a)).2 = q at *
            have hq0 : ((q : Int) == 0) = false := by simp; omega
            generalize unfoldV (u : Int) = X at *
            have HR := hid HK1
            have HUa := hid hUa
            have HUf := hid hUf
            clear HK1 hUa hUf hm hkk hl2 HK
            go_wp2_with fail
            refine (HUa.out _).mono ?_
            rintro e w1 ⟨rfl, rfl⟩
            go_wp2_with fail
            refine (HUf.out _).mono ?_
            rintro e w1 ⟨rfl, rfl⟩
            go_wp2_with (at_builtin; refine wpList_push rfl _ _ 22 rfl 3 (.int .i64 0) 1 8 Try.underlying22 infoIntM rfl (by omega) w.heap.size _ j _ rfl hown [_] rfl rfl (by simp [Value.oneCell']) (by unfold maxLen; omega) (by omega) hsz ?_)
            intro v' w' ho hgr hs'
            rw [push_intM] at ho
            have hg2 : Grow w w' := Row.below hg hgr hsz (fun k hk => (hown.lt k hk).1)
            clear hown hgr hg
            go_wp2_with fail
            go_roundw
            case rel => exact ⟨j + 1, a + q, acc ++ [X], by omega, by go_num, by go_num, by omega, by rw [List.length_append, hal]; rfl, ho, HR, hg2⟩
            case measure => simp [intOf]; omega
        · obtain rfl : j = n := by omega
          have hI := hid (Ints.of_own hown (by omega))
          have HR := hid (show R = (acc, a) by rw [HK.out, Nat.sub_self]; simp [rdN, fin])
          clear HK hown
          go_wp2_with fail
          go_ret2
          rw [HR.out]
          exact ⟨_, rfl, hI.out, hg⟩
end Go.Proofs.Ytookcollmijjkaa
