/- The law of an order and a limit behind a condition: for every text that came in; the tied card. The package variables are what the card ties to the program's text. -/
import Derived.Test.YteilkcdbdpkbfaaDoorQAwake
import Derived.Test.YteilkcdbdpkbfaaDoorQSize
import Derived.Test.YteilkcdbdpkbfaaDoorQTail
import Derived.Test.YteilkcdbdpkbfaaDoorQLaid
import Derived.Test.YteilkcdbdpkbfaaDoorRely
import Derived.Test.YteilkcdbdpkbfaaDoorCards
import Derived.Test.YteilkcdbdpkbfaaDoorTie
import Derived.Deep.Cut
import Derived.SevenTiedAt
namespace Go.Proofs.YteilkcdbdpkbfaaDoor
open Go.RowKit
set_option linter.unusedVariables false
set_option linter.unusedSimpArgs false
theorem fields_ok : (fieldNames.all fun F => fieldB F && wOk F.data.toList && decide (F.data.toList.length ≤ 7)) = true := by kernel_rfl
def fnA : Array Value := #[.string ⟨#[105, 100]⟩, .string ⟨#[112, 114, 111, 99]⟩, .string ⟨#[111, 98, 106, 101, 99, 116]⟩, .string ⟨#[107, 105, 110, 100]⟩, .string ⟨#[109, 101, 116, 104, 111, 100]⟩, .string ⟨#[97, 114, 103]⟩, .string ⟨#[115, 101, 99, 111, 110, 100]⟩, .string ⟨#[100, 111, 110, 101]⟩, .string ⟨#[114, 101, 115, 117, 108, 116]⟩, .string ⟨#[105, 110, 118, 111, 107, 101]⟩, .string ⟨#[114, 101, 116, 117, 114, 110]⟩]
theorem fnA_at (k : Nat) (h : k < 11) : ∃ F : ByteArray, fnA[k]? = some (.string F) ∧ F ∈ fieldNames := by
  match k, h with
  | 0, _ => exact ⟨_, rfl, by simp [fieldNames]⟩
  | 1, _ => exact ⟨_, rfl, by simp [fieldNames]⟩
  | 2, _ => exact ⟨_, rfl, by simp [fieldNames]⟩
  | 3, _ => exact ⟨_, rfl, by simp [fieldNames]⟩
  | 4, _ => exact ⟨_, rfl, by simp [fieldNames]⟩
  | 5, _ => exact ⟨_, rfl, by simp [fieldNames]⟩
  | 6, _ => exact ⟨_, rfl, by simp [fieldNames]⟩
  | 7, _ => exact ⟨_, rfl, by simp [fieldNames]⟩
  | 8, _ => exact ⟨_, rfl, by simp [fieldNames]⟩
  | 9, _ => exact ⟨_, rfl, by simp [fieldNames]⟩
  | 10, _ => exact ⟨_, rfl, by simp [fieldNames]⟩
theorem field_ok {F : ByteArray} (h : F ∈ fieldNames) : fieldB ⟨F.data.toList.toArray⟩ = true ∧ wOk F.data.toList = true ∧ F.data.toList.length ≤ 7 ∧ F.size ≤ 7 := by
  have hk := List.all_eq_true.1 fields_ok F h
  simp only [Bool.and_eq_true, decide_eq_true_eq] at hk
  exact ⟨hk.1.1, hk.1.2, hk.2, by simpa using hk.2⟩
def msrT (n x : Value) : Nat := (intOf n).toNat + (match x with | .string T => if T.size = 0 then 1 else 0 | _ => 0)
theorem one_conv (w : World) (x : Nat) (hx : x < 256) : (convert 43 9 (.slice (some ⟨w.heap.size, 0, none⟩) 1 1)).run Tryd.prog (w.alloc (.cells #[.int .u8 (x : Int)] 5)) = .ok (.string ⟨#[UInt8.ofNat x]⟩) (w.alloc (.cells #[.int .u8 (x : Int)] 5)) := by
  refine conv_bytes Tryd.underlying43 Tryd.underlying5 Tryd.underlying9 w.heap.size 0 1 [UInt8.ofNat x] 1 (by simp) (fun j hj => ?_)
  obtain rfl : j = 0 := by simpa using hj
  rw [Nat.zero_add, heap_cell (heap_new w _)]
  simp
  omega
theorem msr_lt (mm : Nat) (X : ByteArray) (Z : UInt8) (h : 0 < mm ∨ X = ⟨#[]⟩) : msrT (.int .u32 ((mm / 10 : Nat) : Int)) (.string (⟨#[Z]⟩ ++ X)) < msrT (.int .u32 (mm : Int)) (.string X) := by
  have e1 : (⟨#[Z]⟩ ++ X : ByteArray).size = 1 + X.size := by rw [app_size]; rfl
  simp only [msrT, intOf, Int.toNat_natCast]
  rw [if_neg (by omega)]
  rcases h with h | rfl
  · split <;> omega
  · rw [if_pos (show (ByteArray.mk #[]).size = 0 from rfl)]
    omega
def bOrd : ByteArray := ⟨#[32, 111, 114, 100, 101, 114, 32]⟩
def bDwn : ByteArray := ⟨#[32, 100, 111, 119, 110]⟩
def bLim : ByteArray := ⟨#[32, 108, 105, 109, 105, 116, 32]⟩
def bId1 : ByteArray := ⟨#[32, 105, 100, 32, 61, 32, 49]⟩
theorem tail_bytes_false {s F D : ByteArray} {n : NodeR} {pd pc : Bool} {pl : Int} {pa m : Nat} (hp : parseP s.data.toList = ⟨⟨n, ⟨#[]⟩, pd, pl, pc⟩, pa, 0⟩) (hl : pl < 0) (hs : s.size ≤ 3000) (hF : F ∈ fieldNames) (hm : m < 1000) (hD : D = ⟨(dg m).toArray⟩) :
    (∃ a, parseP ((s ++ ⟨#[32, 111, 114, 100, 101, 114, 32]⟩ ++ F) ++ ⟨#[32, 108, 105, 109, 105, 116, 32]⟩ ++ D).data.toList = ⟨⟨n, F, false, (m : Int), pc⟩, a, 0⟩) ∧ ∃ z, parseP ((s ++ ⟨#[32, 111, 114, 100, 101, 114, 32]⟩ ++ F) ++ ⟨#[32, 108, 105, 109, 105, 116, 32]⟩ ++ D ++ ⟨#[32, 105, 100, 32, 61, 32, 49]⟩).data.toList = ⟨z, (s ++ ⟨#[32, 111, 114, 100, 101, 114, 32]⟩ ++ F).size + 7 + D.size + 1, 41⟩ := by
  obtain ⟨f1, f2, f3, -⟩ := field_ok hF
  obtain ⟨h1, z, h2⟩ := tail_law hp rfl hl (by simpa using hs) f1 f2 f3 false hm
  have hDd : D.data.toList = dg m := by rw [hD]
  have hDz : D.size = (dg m).length := by rw [← hDd]; simp
  have k1 : ByteArray.size ⟨#[32, 108, 105, 109, 105, 116, 32]⟩ = 7 := rfl
  have eU : s.data.toList ++ 32 :: joinL (tailT F.data.toList false m) = ((s ++ ⟨#[32, 111, 114, 100, 101, 114, 32]⟩ ++ F) ++ ⟨#[32, 108, 105, 109, 105, 116, 32]⟩ ++ D).data.toList := by simp [tailT, joinL, wTok, nTok, sOrder, sDown, sLimit, ByteArray.data_append, hDd]
  have eV : s.data.toList ++ 32 :: joinL (tailT F.data.toList false m ++ moreT) = ((s ++ ⟨#[32, 111, 114, 100, 101, 114, 32]⟩ ++ F) ++ ⟨#[32, 108, 105, 109, 105, 116, 32]⟩ ++ D ++ ⟨#[32, 105, 100, 32, 61, 32, 49]⟩).data.toList := by simp [tailT, moreT, joinL, wTok, nTok, sOrder, sDown, sLimit, ByteArray.data_append, hDd]
  rw [eU] at h1 h2
  rw [eV] at h2
  refine ⟨⟨_, h1⟩, z, ?_⟩
  have e1 : ((s ++ ⟨#[32, 111, 114, 100, 101, 114, 32]⟩ ++ F) ++ ⟨#[32, 108, 105, 109, 105, 116, 32]⟩ ++ D).data.toList.length = (s ++ ⟨#[32, 111, 114, 100, 101, 114, 32]⟩ ++ F).size + 7 + D.size := by
    rw [show ∀ b : ByteArray, b.data.toList.length = b.size from fun b => by simp, app_size, app_size, k1]
  rw [h2, e1]
set_option maxRecDepth 100000 in
set_option maxHeartbeats 8000000 in
theorem Tails_false (s : ByteArray) (f l : Nat) (w : World) (l0 : s.size ≤ 140737488351232) (l1 : f ≤ 255) (l3 : l ≤ 4294967295) (ht1 : tabSpace w) (ht2 : tabPow w) :
    Calls Tryd.prog 7 #[.string s, .int .u8 f, .bool false, .int .u32 l] w fun e w' => e = .returned (.bool true) ∧ Below w.heap.size w w' := by
  have HW := hid (fun w' (g : Grow w w') => awake_c w' (tab_grow ht1 g) (tab_grow ht2 g))
  have HPA := hid (fun w' => Parse_c s w' (by omega))
  have HPX := hid (fun X w' hx => Parse_c X w' hx)
  have FA := hid (parseP_fit s.data.toList)
  clear ht1 ht2
  obtain ⟨k, hk, hk11⟩ : ∃ k : Nat, f % 11 = k ∧ k < 11 := ⟨_, rfl, Nat.mod_lt _ (by omega)⟩
  obtain ⟨F, hF, hFm⟩ := fnA_at k hk11
  obtain ⟨-, -, -, hFs⟩ := field_ok hFm
  have hkI : (f : Int) % 11 = (k : Int) := by omega
  replace hk := hid hk
  replace hFm := hid hFm
  generalize hP : parseP s.data.toList = P at *
  replace hP := hid hP
  obtain ⟨⟨pn, po, pd, pl, pc⟩, pa, pe⟩ := P
  have ls : (s.size : Int) ≤ 140737488351232 := by omega
  go_enter Tryd.func7, Tryd.ntmps7
  go_upto_region 2 with fail
  have HB := heap_new w (.cells #[.string ⟨#[105, 100]⟩, .string ⟨#[112, 114, 111, 99]⟩, .string ⟨#[111, 98, 106, 101, 99, 116]⟩, .string ⟨#[107, 105, 110, 100]⟩, .string ⟨#[109, 101, 116, 104, 111, 100]⟩, .string ⟨#[97, 114, 103]⟩, .string ⟨#[115, 101, 99, 111, 110, 100]⟩, .string ⟨#[100, 111, 110, 101]⟩, .string ⟨#[114, 101, 115, 117, 108, 116]⟩, .string ⟨#[105, 110, 118, 111, 107, 101]⟩, .string ⟨#[114, 101, 116, 117, 114, 110]⟩] 9)
  have g0 := hid (Grow.alloc w (.cells #[.string ⟨#[105, 100]⟩, .string ⟨#[112, 114, 111, 99]⟩, .string ⟨#[111, 98, 106, 101, 99, 116]⟩, .string ⟨#[107, 105, 110, 100]⟩, .string ⟨#[109, 101, 116, 104, 111, 100]⟩, .string ⟨#[97, 114, 103]⟩, .string ⟨#[115, 101, 99, 111, 110, 100]⟩, .string ⟨#[100, 111, 110, 101]⟩, .string ⟨#[114, 101, 115, 117, 108, 116]⟩, .string ⟨#[105, 110, 118, 111, 107, 101]⟩, .string ⟨#[114, 101, 116, 117, 114, 110]⟩] 9))
  have hcF : (w.alloc (.cells #[.string ⟨#[105, 100]⟩, .string ⟨#[112, 114, 111, 99]⟩, .string ⟨#[111, 98, 106, 101, 99, 116]⟩, .string ⟨#[107, 105, 110, 100]⟩, .string ⟨#[109, 101, 116, 104, 111, 100]⟩, .string ⟨#[97, 114, 103]⟩, .string ⟨#[115, 101, 99, 111, 110, 100]⟩, .string ⟨#[100, 111, 110, 101]⟩, .string ⟨#[114, 101, 115, 117, 108, 116]⟩, .string ⟨#[105, 110, 118, 111, 107, 101]⟩, .string ⟨#[114, 101, 116, 117, 114, 110]⟩] 9)).cell? ⟨w.heap.size, k, none⟩ = some (.string F) := by rw [heap_cell HB]; exact hF
  clear HB hF
  generalize (w.alloc (.cells #[.string ⟨#[105, 100]⟩, .string ⟨#[112, 114, 111, 99]⟩, .string ⟨#[111, 98, 106, 101, 99, 116]⟩, .string ⟨#[107, 105, 110, 100]⟩, .string ⟨#[109, 101, 116, 104, 111, 100]⟩, .string ⟨#[97, 114, 103]⟩, .string ⟨#[115, 101, 99, 111, 110, 100]⟩, .string ⟨#[100, 111, 110, 101]⟩, .string ⟨#[114, 101, 115, 117, 108, 116]⟩, .string ⟨#[105, 110, 118, 111, 107, 101]⟩, .string ⟨#[114, 101, 116, 117, 114, 110]⟩] 9)) = w0 at *
  have hk2 : (k : Int) < 11 := by omega
  go_wp2_with fail
  refine (HPA.out _).mono ?_
  rintro e w1 ⟨v, rfl, ⟨c0, c1, c2, c3, c4, rfl, hin⟩, g1⟩
  simp only at hin ⊢
  obtain ⟨uk, up, un, uc, uf, us, ux, e⟩ := NodeR.In.value hin
  simp only [Value.agg.injEq, Array.mk.injEq, List.cons.injEq, and_true] at e
  obtain ⟨rfl, rfl, rfl, rfl, rfl⟩ := e
  have G1 := hid ((g0.out.trans g1).trans (Grow.alloc w1 (.cells #[.int .i64 uk, .slice up un uc, .string uf, .string us, .int .i64 ux, .string po, .bool pd, .int .i64 pl, .bool pc] 26)))
  have NA := hid (fun w' (g : Grow w1 w') => NodeR.In.grow g hin)
  have hA := hid (heap_new w1 (.cells #[.int .i64 uk, .slice up un uc, .string uf, .string us, .int .i64 ux, .string po, .bool pd, .int .i64 pl, .bool pc] 26))
  have gA := hid (Grow.alloc w1 (.cells #[.int .i64 uk, .slice up un uc, .string uf, .string us, .int .i64 ux, .string po, .bool pd, .int .i64 pl, .bool pc] 26))
  clear g1 hin hcF
  by_cases he : pe = 0
  rotate_left
  · have hd1 : ((pe : Int) != 0) = true := by simpa using he
    clear he
    go_wp2_with fail
    refine (HW.out _ G1.out).mono ?_
    rintro e w3 ⟨rfl, g3⟩
    go_wp2_with fail
    go_ret
    exact ⟨rfl, G1.out.trans g3⟩
  subst he
  by_cases ho : po = ⟨#[]⟩
  rotate_left
  · have hd2 : ¬po.toList = [] := fun e => ho (toList_injQ (by rw [e]; simp [ByteArray.toList_eq]))
    clear ho
    go_wp2_with fail
    refine (HW.out _ G1.out).mono ?_
    rintro e w3 ⟨rfl, g3⟩
    go_wp2_with fail
    go_ret
    exact ⟨rfl, G1.out.trans g3⟩
  subst ho
  by_cases hl : 0 ≤ pl
  · go_wp2_with fail
    refine (HW.out _ G1.out).mono ?_
    rintro e w3 ⟨rfl, g3⟩
    go_wp2_with fail
    go_ret
    exact ⟨rfl, G1.out.trans g3⟩
  have hl2 : pl < 0 := by omega
  have hl1 : decide (0 ≤ pl) = false := by simpa using hl
  by_cases h3 : 3000 < s.size
  · have h3b : (3000 : Int) < s.size := by omega
    go_wp2_with fail
    refine (HW.out _ G1.out).mono ?_
    rintro e w3 ⟨rfl, g3⟩
    go_wp2_with fail
    go_ret
    exact ⟨rfl, G1.out.trans g3⟩
  have h3b : (s.size : Int) ≤ 3000 := by omega
  have h3c : ¬(3000 : Int) < s.size := by omega
  obtain ⟨m, hm, hm1⟩ : ∃ m : Nat, l % 1000 = m ∧ m < 1000 := ⟨_, rfl, Nat.mod_lt _ (by omega)⟩
  have hmI : (l : Int) % 1000 = (m : Int) := by omega
  replace hm := hid hm
  obtain ⟨D, hD⟩ : ∃ D : ByteArray, D = ⟨(dg m).toArray⟩ := ⟨_, rfl⟩
  have hDs : D.size ≤ 3 := by
    have hdg := dg_ok m hm1
    simp only [dgOk, Bool.and_eq_true, decide_eq_true_eq] at hdg
    rw [hD]
    simpa [ByteArray.size] using hdg.2
  have HT2 := hid (tail_bytes_false hP.out hl2 (by omega) hFm.out hm1 hD)
  replace hD := hid hD
  clear hP h3 hl
  go_wp2_with fail
  generalize (w1.alloc (.cells #[.int .i64 uk, .slice up un uc, .string uf, .string us, .int .i64 ux, .string ⟨#[]⟩, .bool pd, .int .i64 pl, .bool pc] 26)) = w2 at *
  have hz2 := heap_lt hA.out
  generalize w1.heap.size = K at *
  go_loopw [15, 16] (fun n x wr => ∃ (mm fu : Nat) (X : ByteArray), n = .int .u32 (mm : Int) ∧ x = .string X ∧ mm ≤ 999 ∧ Hid (mm < 10 ^ fu) ∧ Hid (X = ⟨#[]⟩ → 0 < fu) ∧ X.size + fu ≤ 4 ∧ Hid (dgF fu mm X.data.toList = dg m) ∧ Hid (Grow w2 wr)) (fun n x _ => msrT n x)
  case atStart => exact ⟨m, 4, ⟨#[]⟩, rfl, rfl, by omega, hid (by omega), hid (fun _ => by omega), by decide, hid rfl, hid (Grow.refl _)⟩
  case round =>
    obtain ⟨mm, fu, X, rfl, rfl, h999, hfu, hX0, hlen, hdg, HG⟩ := hrel
    by_cases hgo : 0 < mm ∨ X = ⟨#[]⟩
    · have hfu1 : 0 < fu := by
        rcases hgo with h | h
        · rcases Nat.eq_zero_or_pos fu with e | e
          · have := hfu.out
            rw [e] at this
            simp at this
            omega
          · exact e
        · exact hX0.out h
      obtain ⟨g, rfl⟩ : ∃ g, fu = g + 1 := ⟨fu - 1, by omega⟩
      have hst := hdg.out
      rw [show dgF (g + 1) mm X.data.toList = if 0 < mm ∨ X.data.toList = [] then dgF g (mm / 10) (UInt8.ofNat (48 + mm % 10) :: X.data.toList) else X.data.toList from rfl, if_pos (by rcases hgo with h | h; exact .inl h; exact .inr (by rw [h]))] at hst
      replace hst := hid hst
      have hcv : ∀ W : World, (convert 43 9 (.slice (some ⟨W.heap.size, 0, none⟩) 1 1)).run Tryd.prog (W.alloc (.cells #[.int .u8 (48 + (mm : Int) % 10)] 5)) = .ok (.string ⟨#[UInt8.ofNat (48 + mm % 10)]⟩) (W.alloc (.cells #[.int .u8 (48 + (mm : Int) % 10)] 5)) := fun W => by
        have h := one_conv W (48 + mm % 10) (by omega)
        rw [show ((48 + mm % 10 : Nat) : Int) = 48 + (mm : Int) % 10 from by omega] at h
        exact h
      have hst3 := hid (show dgF g (mm / 10) ((⟨#[UInt8.ofNat (48 + mm % 10)]⟩ : ByteArray) ++ X).data.toList = dg m from by
        rw [ByteArray.data_append]
        simpa using hst.out)
      have hXs : (X.size : Int) ≤ 4 := by omega
      generalize UInt8.ofNat (48 + mm % 10) = Z at *
      clear hst hdg
      have hf2 := hid (show mm / 10 < 10 ^ g from by have := hfu.out; rw [Nat.pow_succ] at this; omega)
      clear hfu hX0
      by_cases hmm : 0 < mm
      · have hmi : (0 : Int) < (mm : Int) := by omega
        have hmi2 : ¬(mm : Int) = 0 := by omega
        clear hgo
        go_wp2_with fail
        go_roundw
        case rel => exact ⟨mm / 10, g, ⟨#[Z]⟩ ++ X, by go_num, rfl, by omega, hf2, hid (fun e => absurd (congrArg ByteArray.size e) (by rw [app_size]; show 1 + X.size ≠ 0; omega)), by rw [app_size]; show 1 + X.size + g ≤ 4; omega, hst3, hid (HG.out.trans (Grow.alloc wr _))⟩
        case measure => exact msr_lt mm X Z (.inl hmm)
      · obtain rfl : mm = 0 := by omega
        obtain rfl : X = ⟨#[]⟩ := by rcases hgo with h | h; omega; exact h
        have hmi : ¬(0 : Int) < ((0 : Nat) : Int) := by omega
        simp only [show (48 + ((0 : Nat) : Int) % 10) = 48 from by decide] at hcv
        clear hgo
        go_wp2_with fail
        go_roundw
        case rel => exact ⟨0 / 10, g, ⟨#[Z]⟩ ++ ⟨#[]⟩, by go_num, rfl, by omega, hf2, hid (fun e => absurd (congrArg ByteArray.size e) (by rw [app_size]; show 1 + 0 ≠ 0; omega)), by rw [app_size]; show 1 + 0 + g ≤ 4; omega, hst3, hid (HG.out.trans (Grow.alloc wr _))⟩
        case measure => exact msr_lt 0 ⟨#[]⟩ Z (.inr rfl)
    · obtain rfl : mm = 0 := by omega
      have hXn : ¬X = ⟨#[]⟩ := fun e => hgo (.inr e)
      have hX2 : ¬X.toList = [] := fun e => hXn (toList_injQ (by rw [e]; simp [ByteArray.toList_eq]))
      have hXD : D = X := by
        have h1 := hdg.out
        have h2 : dgF fu 0 X.data.toList = X.data.toList := by
          cases fu with
          | zero => rfl
          | succ g =>
            rw [show dgF (g + 1) 0 X.data.toList = if 0 < 0 ∨ X.data.toList = [] then dgF g (0 / 10) (UInt8.ofNat (48 + 0 % 10) :: X.data.toList) else X.data.toList from rfl, if_neg]
            rintro (h | h)
            · omega
            · exact hXn (ByteArray.ext (Array.toList_inj.1 h))
        rw [h2] at h1
        rw [hD.out]
        exact (ByteArray.ext (Array.toList_inj.1 h1)).symm
      have hmi : ¬(0 : Int) < ((0 : Nat) : Int) := by omega
      have hX4 : X.toList.isEmpty = false := by simpa using hX2
      clear hgo hXn hdg hfu hX0 hX2
      subst hXD
      have hT3 := hDs
      obtain ⟨⟨ua, hpu⟩, z, hpv⟩ := HT2.out
      have z1 : ByteArray.size ⟨#[32, 111, 114, 100, 101, 114, 32]⟩ = 7 := rfl
      have z2 : ByteArray.size ⟨#[32, 108, 105, 109, 105, 116, 32]⟩ = 7 := rfl
      have z3 : ByteArray.size ⟨#[32, 105, 100, 32, 61, 32, 49]⟩ = 7 := rfl
      have z4 : ByteArray.size ⟨#[32, 100, 111, 119, 110]⟩ = 5 := rfl
      have hTB : (s ++ ⟨#[32, 111, 114, 100, 101, 114, 32]⟩ ++ F).size ≤ 3019 := by simp only [app_size, z1, z4]; omega
      have HPU := HPX.out ((s ++ ⟨#[32, 111, 114, 100, 101, 114, 32]⟩ ++ F) ++ ⟨#[32, 108, 105, 109, 105, 116, 32]⟩ ++ D) wr (by rw [app_size, app_size]; omega)
      have HPV := fun W => HPX.out ((s ++ ⟨#[32, 111, 114, 100, 101, 114, 32]⟩ ++ F) ++ ⟨#[32, 108, 105, 109, 105, 116, 32]⟩ ++ D ++ ⟨#[32, 105, 100, 32, 61, 32, 49]⟩) W (by rw [app_size, app_size, app_size]; omega)
      rw [hpu] at HPU
      rw [hpv] at HPV
      clear z1 z2 z3 z4 hpu hpv HT2 HPX
      obtain ⟨zn, zo, zd, zl, zc⟩ := z
      have hTBi : ((s ++ ⟨#[32, 111, 114, 100, 101, 114, 32]⟩ ++ F).size : Int) ≤ 3019 := by omega
      have hDi : (D.size : Int) ≤ 3 := by omega
      replace HPU := hid HPU
      replace HPV := hid HPV
      generalize hTBB : (s ++ ⟨#[32, 111, 114, 100, 101, 114, 32]⟩ ++ F) = TB at *
      replace hTBB := hid hTBB
      go_wp2_with fail
      refine HPU.out.mono ?_
      rintro e w3 ⟨v, rfl, ⟨c0, c1, c2, c3, c4, rfl, hin⟩, g3⟩
      simp only at hin ⊢
      obtain ⟨vk, vp, vn, vc, vf, vs, vx, e⟩ := NodeR.In.value hin
      simp only [Value.agg.injEq, Array.mk.injEq, List.cons.injEq, and_true] at e
      obtain ⟨rfl, rfl, rfl, rfl, rfl⟩ := e
      have hB := hid (heap_new w3 (.cells #[.int .i64 vk, .slice vp vn vc, .string vf, .string vs, .int .i64 vx, .string F, .bool false, .int .i64 (m : Int), .bool pc] 26))
      have gB := hid (Grow.alloc w3 (.cells #[.int .i64 vk, .slice vp vn vc, .string vf, .string vs, .int .i64 vx, .string F, .bool false, .int .i64 (m : Int), .bool pc] 26))
      have G3 := hid (HG.out.trans (Grow.trans g3 gB.out))
      have NB := hid hin
      clear hin g3
      go_wp2_with fail
      refine (HPV.out _).mono ?_
      rintro e w4 ⟨v, rfl, ⟨c0, c1, c2, c3, c4, rfl, hin⟩, g4⟩
      simp only at hin ⊢
      obtain ⟨xk, xp, xn, xc, xf, xs, xx, e⟩ := NodeR.In.value hin
      simp only [Value.agg.injEq, Array.mk.injEq, List.cons.injEq, and_true] at e
      obtain ⟨rfl, rfl, rfl, rfl, rfl⟩ := e
      clear hin
      have gC := hid (Grow.alloc w4 (.cells #[.int .i64 xk, .slice xp xn xc, .string xf, .string xs, .int .i64 xx, .string zo, .bool zd, .int .i64 zl, .bool zc] 26))
      have G4 := hid (G3.out.trans g4)
      have hA4 := hid (G4.out.heap hA.out)
      have hB4 := hid (g4.heap hB.out)
      have hzA := heap_lt hA4.out
      have hzB := heap_lt hB4.out
      have RS := RSame_c pn.wt pn pn _ _ _ _ _ (Nat.le_refl _) FA.out.1 (NA.out _ (gA.out.trans (G4.out.trans gC.out))) (NodeR.In.grow (gB.out.trans (Grow.trans g4 gC.out)) NB.out)
      rw [(sameN_iff pn pn).2 rfl] at RS
      replace RS := hid RS
      clear g4 NA NB FA HPU HPV hB
      have p0 : w4.cell? ⟨K, 0, none⟩ = some (.int .i64 uk) := by rw [heap_cell hA4.out]; rfl
      have p1 : w4.cell? ⟨K, 1, none⟩ = some (.slice up un uc) := by rw [heap_cell hA4.out]; rfl
      have p2 : w4.cell? ⟨K, 2, none⟩ = some (.string uf) := by rw [heap_cell hA4.out]; rfl
      have p3 : w4.cell? ⟨K, 3, none⟩ = some (.string us) := by rw [heap_cell hA4.out]; rfl
      have p4 : w4.cell? ⟨K, 4, none⟩ = some (.int .i64 ux) := by rw [heap_cell hA4.out]; rfl
      have q0 : w4.cell? ⟨w3.heap.size, 0, none⟩ = some (.int .i64 vk) := by rw [heap_cell hB4.out]; rfl
      have q1 : w4.cell? ⟨w3.heap.size, 1, none⟩ = some (.slice vp vn vc) := by rw [heap_cell hB4.out]; rfl
      have q2 : w4.cell? ⟨w3.heap.size, 2, none⟩ = some (.string vf) := by rw [heap_cell hB4.out]; rfl
      have q3 : w4.cell? ⟨w3.heap.size, 3, none⟩ = some (.string vs) := by rw [heap_cell hB4.out]; rfl
      have q4 : w4.cell? ⟨w3.heap.size, 4, none⟩ = some (.int .i64 vx) := by rw [heap_cell hB4.out]; rfl
      generalize w3.heap.size = K3 at *
      go_wp2_with fail
      refine RS.out.mono ?_
      rintro e w5 ⟨rfl, g5⟩
      have hA5 := hid ((gC.out.trans g5).heap hA4.out)
      have hB5 := hid ((gC.out.trans g5).heap hB4.out)
      have G5 := hid (G4.out.trans (gC.out.trans g5))
      clear p0 p1 p2 p3 p4 q0 q1 q2 q3 q4 g5
      have p8 : w5.cell? ⟨K, 8, none⟩ = some (.bool pc) := by rw [heap_cell hA5.out]; rfl
      have q5 : w5.cell? ⟨K3, 5, none⟩ = some (.string F) := by rw [heap_cell hB5.out]; rfl
      have q6 : w5.cell? ⟨K3, 6, none⟩ = some (.bool false) := by rw [heap_cell hB5.out]; rfl
      have q7 : w5.cell? ⟨K3, 7, none⟩ = some (.int .i64 (m : Int)) := by rw [heap_cell hB5.out]; rfl
      have q8 : w5.cell? ⟨K3, 8, none⟩ = some (.bool pc) := by rw [heap_cell hB5.out]; rfl
      go_wp2_with fail
      refine (HW.out _ (G1.out.trans G5.out)).mono ?_
      rintro e w6 ⟨rfl, g6⟩
      go_wp2_with fail
      go_ret
      exact ⟨rfl, (G1.out.trans G5.out).trans g6⟩
theorem tail_bytes_true {s F D : ByteArray} {n : NodeR} {pd pc : Bool} {pl : Int} {pa m : Nat} (hp : parseP s.data.toList = ⟨⟨n, ⟨#[]⟩, pd, pl, pc⟩, pa, 0⟩) (hl : pl < 0) (hs : s.size ≤ 3000) (hF : F ∈ fieldNames) (hm : m < 1000) (hD : D = ⟨(dg m).toArray⟩) :
    (∃ a, parseP ((s ++ ⟨#[32, 111, 114, 100, 101, 114, 32]⟩ ++ F ++ ⟨#[32, 100, 111, 119, 110]⟩) ++ ⟨#[32, 108, 105, 109, 105, 116, 32]⟩ ++ D).data.toList = ⟨⟨n, F, true, (m : Int), pc⟩, a, 0⟩) ∧ ∃ z, parseP ((s ++ ⟨#[32, 111, 114, 100, 101, 114, 32]⟩ ++ F ++ ⟨#[32, 100, 111, 119, 110]⟩) ++ ⟨#[32, 108, 105, 109, 105, 116, 32]⟩ ++ D ++ ⟨#[32, 105, 100, 32, 61, 32, 49]⟩).data.toList = ⟨z, (s ++ ⟨#[32, 111, 114, 100, 101, 114, 32]⟩ ++ F ++ ⟨#[32, 100, 111, 119, 110]⟩).size + 7 + D.size + 1, 41⟩ := by
  obtain ⟨f1, f2, f3, -⟩ := field_ok hF
  obtain ⟨h1, z, h2⟩ := tail_law hp rfl hl (by simpa using hs) f1 f2 f3 true hm
  have hDd : D.data.toList = dg m := by rw [hD]
  have hDz : D.size = (dg m).length := by rw [← hDd]; simp
  have k1 : ByteArray.size ⟨#[32, 108, 105, 109, 105, 116, 32]⟩ = 7 := rfl
  have eU : s.data.toList ++ 32 :: joinL (tailT F.data.toList true m) = ((s ++ ⟨#[32, 111, 114, 100, 101, 114, 32]⟩ ++ F ++ ⟨#[32, 100, 111, 119, 110]⟩) ++ ⟨#[32, 108, 105, 109, 105, 116, 32]⟩ ++ D).data.toList := by simp [tailT, joinL, wTok, nTok, sOrder, sDown, sLimit, ByteArray.data_append, hDd]
  have eV : s.data.toList ++ 32 :: joinL (tailT F.data.toList true m ++ moreT) = ((s ++ ⟨#[32, 111, 114, 100, 101, 114, 32]⟩ ++ F ++ ⟨#[32, 100, 111, 119, 110]⟩) ++ ⟨#[32, 108, 105, 109, 105, 116, 32]⟩ ++ D ++ ⟨#[32, 105, 100, 32, 61, 32, 49]⟩).data.toList := by simp [tailT, moreT, joinL, wTok, nTok, sOrder, sDown, sLimit, ByteArray.data_append, hDd]
  rw [eU] at h1 h2
  rw [eV] at h2
  refine ⟨⟨_, h1⟩, z, ?_⟩
  have e1 : ((s ++ ⟨#[32, 111, 114, 100, 101, 114, 32]⟩ ++ F ++ ⟨#[32, 100, 111, 119, 110]⟩) ++ ⟨#[32, 108, 105, 109, 105, 116, 32]⟩ ++ D).data.toList.length = (s ++ ⟨#[32, 111, 114, 100, 101, 114, 32]⟩ ++ F ++ ⟨#[32, 100, 111, 119, 110]⟩).size + 7 + D.size := by
    rw [show ∀ b : ByteArray, b.data.toList.length = b.size from fun b => by simp, app_size, app_size, k1]
  rw [h2, e1]
set_option maxRecDepth 100000 in
set_option maxHeartbeats 8000000 in
theorem Tails_true (s : ByteArray) (f l : Nat) (w : World) (l0 : s.size ≤ 140737488351232) (l1 : f ≤ 255) (l3 : l ≤ 4294967295) (ht1 : tabSpace w) (ht2 : tabPow w) :
    Calls Tryd.prog 7 #[.string s, .int .u8 f, .bool true, .int .u32 l] w fun e w' => e = .returned (.bool true) ∧ Below w.heap.size w w' := by
  have HW := hid (fun w' (g : Grow w w') => awake_c w' (tab_grow ht1 g) (tab_grow ht2 g))
  have HPA := hid (fun w' => Parse_c s w' (by omega))
  have HPX := hid (fun X w' hx => Parse_c X w' hx)
  have FA := hid (parseP_fit s.data.toList)
  clear ht1 ht2
  obtain ⟨k, hk, hk11⟩ : ∃ k : Nat, f % 11 = k ∧ k < 11 := ⟨_, rfl, Nat.mod_lt _ (by omega)⟩
  obtain ⟨F, hF, hFm⟩ := fnA_at k hk11
  obtain ⟨-, -, -, hFs⟩ := field_ok hFm
  have hkI : (f : Int) % 11 = (k : Int) := by omega
  replace hk := hid hk
  replace hFm := hid hFm
  generalize hP : parseP s.data.toList = P at *
  replace hP := hid hP
  obtain ⟨⟨pn, po, pd, pl, pc⟩, pa, pe⟩ := P
  have ls : (s.size : Int) ≤ 140737488351232 := by omega
  go_enter Tryd.func7, Tryd.ntmps7
  go_upto_region 2 with fail
  have HB := heap_new w (.cells #[.string ⟨#[105, 100]⟩, .string ⟨#[112, 114, 111, 99]⟩, .string ⟨#[111, 98, 106, 101, 99, 116]⟩, .string ⟨#[107, 105, 110, 100]⟩, .string ⟨#[109, 101, 116, 104, 111, 100]⟩, .string ⟨#[97, 114, 103]⟩, .string ⟨#[115, 101, 99, 111, 110, 100]⟩, .string ⟨#[100, 111, 110, 101]⟩, .string ⟨#[114, 101, 115, 117, 108, 116]⟩, .string ⟨#[105, 110, 118, 111, 107, 101]⟩, .string ⟨#[114, 101, 116, 117, 114, 110]⟩] 9)
  have g0 := hid (Grow.alloc w (.cells #[.string ⟨#[105, 100]⟩, .string ⟨#[112, 114, 111, 99]⟩, .string ⟨#[111, 98, 106, 101, 99, 116]⟩, .string ⟨#[107, 105, 110, 100]⟩, .string ⟨#[109, 101, 116, 104, 111, 100]⟩, .string ⟨#[97, 114, 103]⟩, .string ⟨#[115, 101, 99, 111, 110, 100]⟩, .string ⟨#[100, 111, 110, 101]⟩, .string ⟨#[114, 101, 115, 117, 108, 116]⟩, .string ⟨#[105, 110, 118, 111, 107, 101]⟩, .string ⟨#[114, 101, 116, 117, 114, 110]⟩] 9))
  have hcF : (w.alloc (.cells #[.string ⟨#[105, 100]⟩, .string ⟨#[112, 114, 111, 99]⟩, .string ⟨#[111, 98, 106, 101, 99, 116]⟩, .string ⟨#[107, 105, 110, 100]⟩, .string ⟨#[109, 101, 116, 104, 111, 100]⟩, .string ⟨#[97, 114, 103]⟩, .string ⟨#[115, 101, 99, 111, 110, 100]⟩, .string ⟨#[100, 111, 110, 101]⟩, .string ⟨#[114, 101, 115, 117, 108, 116]⟩, .string ⟨#[105, 110, 118, 111, 107, 101]⟩, .string ⟨#[114, 101, 116, 117, 114, 110]⟩] 9)).cell? ⟨w.heap.size, k, none⟩ = some (.string F) := by rw [heap_cell HB]; exact hF
  clear HB hF
  generalize (w.alloc (.cells #[.string ⟨#[105, 100]⟩, .string ⟨#[112, 114, 111, 99]⟩, .string ⟨#[111, 98, 106, 101, 99, 116]⟩, .string ⟨#[107, 105, 110, 100]⟩, .string ⟨#[109, 101, 116, 104, 111, 100]⟩, .string ⟨#[97, 114, 103]⟩, .string ⟨#[115, 101, 99, 111, 110, 100]⟩, .string ⟨#[100, 111, 110, 101]⟩, .string ⟨#[114, 101, 115, 117, 108, 116]⟩, .string ⟨#[105, 110, 118, 111, 107, 101]⟩, .string ⟨#[114, 101, 116, 117, 114, 110]⟩] 9)) = w0 at *
  have hk2 : (k : Int) < 11 := by omega
  go_wp2_with fail
  refine (HPA.out _).mono ?_
  rintro e w1 ⟨v, rfl, ⟨c0, c1, c2, c3, c4, rfl, hin⟩, g1⟩
  simp only at hin ⊢
  obtain ⟨uk, up, un, uc, uf, us, ux, e⟩ := NodeR.In.value hin
  simp only [Value.agg.injEq, Array.mk.injEq, List.cons.injEq, and_true] at e
  obtain ⟨rfl, rfl, rfl, rfl, rfl⟩ := e
  have G1 := hid ((g0.out.trans g1).trans (Grow.alloc w1 (.cells #[.int .i64 uk, .slice up un uc, .string uf, .string us, .int .i64 ux, .string po, .bool pd, .int .i64 pl, .bool pc] 26)))
  have NA := hid (fun w' (g : Grow w1 w') => NodeR.In.grow g hin)
  have hA := hid (heap_new w1 (.cells #[.int .i64 uk, .slice up un uc, .string uf, .string us, .int .i64 ux, .string po, .bool pd, .int .i64 pl, .bool pc] 26))
  have gA := hid (Grow.alloc w1 (.cells #[.int .i64 uk, .slice up un uc, .string uf, .string us, .int .i64 ux, .string po, .bool pd, .int .i64 pl, .bool pc] 26))
  clear g1 hin hcF
  by_cases he : pe = 0
  rotate_left
  · have hd1 : ((pe : Int) != 0) = true := by simpa using he
    clear he
    go_wp2_with fail
    refine (HW.out _ G1.out).mono ?_
    rintro e w3 ⟨rfl, g3⟩
    go_wp2_with fail
    go_ret
    exact ⟨rfl, G1.out.trans g3⟩
  subst he
  by_cases ho : po = ⟨#[]⟩
  rotate_left
  · have hd2 : ¬po.toList = [] := fun e => ho (toList_injQ (by rw [e]; simp [ByteArray.toList_eq]))
    clear ho
    go_wp2_with fail
    refine (HW.out _ G1.out).mono ?_
    rintro e w3 ⟨rfl, g3⟩
    go_wp2_with fail
    go_ret
    exact ⟨rfl, G1.out.trans g3⟩
  subst ho
  by_cases hl : 0 ≤ pl
  · go_wp2_with fail
    refine (HW.out _ G1.out).mono ?_
    rintro e w3 ⟨rfl, g3⟩
    go_wp2_with fail
    go_ret
    exact ⟨rfl, G1.out.trans g3⟩
  have hl2 : pl < 0 := by omega
  have hl1 : decide (0 ≤ pl) = false := by simpa using hl
  by_cases h3 : 3000 < s.size
  · have h3b : (3000 : Int) < s.size := by omega
    go_wp2_with fail
    refine (HW.out _ G1.out).mono ?_
    rintro e w3 ⟨rfl, g3⟩
    go_wp2_with fail
    go_ret
    exact ⟨rfl, G1.out.trans g3⟩
  have h3b : (s.size : Int) ≤ 3000 := by omega
  have h3c : ¬(3000 : Int) < s.size := by omega
  obtain ⟨m, hm, hm1⟩ : ∃ m : Nat, l % 1000 = m ∧ m < 1000 := ⟨_, rfl, Nat.mod_lt _ (by omega)⟩
  have hmI : (l : Int) % 1000 = (m : Int) := by omega
  replace hm := hid hm
  obtain ⟨D, hD⟩ : ∃ D : ByteArray, D = ⟨(dg m).toArray⟩ := ⟨_, rfl⟩
  have hDs : D.size ≤ 3 := by
    have hdg := dg_ok m hm1
    simp only [dgOk, Bool.and_eq_true, decide_eq_true_eq] at hdg
    rw [hD]
    simpa [ByteArray.size] using hdg.2
  have HT2 := hid (tail_bytes_true hP.out hl2 (by omega) hFm.out hm1 hD)
  replace hD := hid hD
  clear hP h3 hl
  go_wp2_with fail
  generalize (w1.alloc (.cells #[.int .i64 uk, .slice up un uc, .string uf, .string us, .int .i64 ux, .string ⟨#[]⟩, .bool pd, .int .i64 pl, .bool pc] 26)) = w2 at *
  have hz2 := heap_lt hA.out
  generalize w1.heap.size = K at *
  go_loopw [15, 16] (fun n x wr => ∃ (mm fu : Nat) (X : ByteArray), n = .int .u32 (mm : Int) ∧ x = .string X ∧ mm ≤ 999 ∧ Hid (mm < 10 ^ fu) ∧ Hid (X = ⟨#[]⟩ → 0 < fu) ∧ X.size + fu ≤ 4 ∧ Hid (dgF fu mm X.data.toList = dg m) ∧ Hid (Grow w2 wr)) (fun n x _ => msrT n x)
  case atStart => exact ⟨m, 4, ⟨#[]⟩, rfl, rfl, by omega, hid (by omega), hid (fun _ => by omega), by decide, hid rfl, hid (Grow.refl _)⟩
  case round =>
    obtain ⟨mm, fu, X, rfl, rfl, h999, hfu, hX0, hlen, hdg, HG⟩ := hrel
    by_cases hgo : 0 < mm ∨ X = ⟨#[]⟩
    · have hfu1 : 0 < fu := by
        rcases hgo with h | h
        · rcases Nat.eq_zero_or_pos fu with e | e
          · have := hfu.out
            rw [e] at this
            simp at this
            omega
          · exact e
        · exact hX0.out h
      obtain ⟨g, rfl⟩ : ∃ g, fu = g + 1 := ⟨fu - 1, by omega⟩
      have hst := hdg.out
      rw [show dgF (g + 1) mm X.data.toList = if 0 < mm ∨ X.data.toList = [] then dgF g (mm / 10) (UInt8.ofNat (48 + mm % 10) :: X.data.toList) else X.data.toList from rfl, if_pos (by rcases hgo with h | h; exact .inl h; exact .inr (by rw [h]))] at hst
      replace hst := hid hst
      have hcv : ∀ W : World, (convert 43 9 (.slice (some ⟨W.heap.size, 0, none⟩) 1 1)).run Tryd.prog (W.alloc (.cells #[.int .u8 (48 + (mm : Int) % 10)] 5)) = .ok (.string ⟨#[UInt8.ofNat (48 + mm % 10)]⟩) (W.alloc (.cells #[.int .u8 (48 + (mm : Int) % 10)] 5)) := fun W => by
        have h := one_conv W (48 + mm % 10) (by omega)
        rw [show ((48 + mm % 10 : Nat) : Int) = 48 + (mm : Int) % 10 from by omega] at h
        exact h
      have hst3 := hid (show dgF g (mm / 10) ((⟨#[UInt8.ofNat (48 + mm % 10)]⟩ : ByteArray) ++ X).data.toList = dg m from by
        rw [ByteArray.data_append]
        simpa using hst.out)
      have hXs : (X.size : Int) ≤ 4 := by omega
      generalize UInt8.ofNat (48 + mm % 10) = Z at *
      clear hst hdg
      have hf2 := hid (show mm / 10 < 10 ^ g from by have := hfu.out; rw [Nat.pow_succ] at this; omega)
      clear hfu hX0
      by_cases hmm : 0 < mm
      · have hmi : (0 : Int) < (mm : Int) := by omega
        have hmi2 : ¬(mm : Int) = 0 := by omega
        clear hgo
        go_wp2_with fail
        go_roundw
        case rel => exact ⟨mm / 10, g, ⟨#[Z]⟩ ++ X, by go_num, rfl, by omega, hf2, hid (fun e => absurd (congrArg ByteArray.size e) (by rw [app_size]; show 1 + X.size ≠ 0; omega)), by rw [app_size]; show 1 + X.size + g ≤ 4; omega, hst3, hid (HG.out.trans (Grow.alloc wr _))⟩
        case measure => exact msr_lt mm X Z (.inl hmm)
      · obtain rfl : mm = 0 := by omega
        obtain rfl : X = ⟨#[]⟩ := by rcases hgo with h | h; omega; exact h
        have hmi : ¬(0 : Int) < ((0 : Nat) : Int) := by omega
        simp only [show (48 + ((0 : Nat) : Int) % 10) = 48 from by decide] at hcv
        clear hgo
        go_wp2_with fail
        go_roundw
        case rel => exact ⟨0 / 10, g, ⟨#[Z]⟩ ++ ⟨#[]⟩, by go_num, rfl, by omega, hf2, hid (fun e => absurd (congrArg ByteArray.size e) (by rw [app_size]; show 1 + 0 ≠ 0; omega)), by rw [app_size]; show 1 + 0 + g ≤ 4; omega, hst3, hid (HG.out.trans (Grow.alloc wr _))⟩
        case measure => exact msr_lt 0 ⟨#[]⟩ Z (.inr rfl)
    · obtain rfl : mm = 0 := by omega
      have hXn : ¬X = ⟨#[]⟩ := fun e => hgo (.inr e)
      have hX2 : ¬X.toList = [] := fun e => hXn (toList_injQ (by rw [e]; simp [ByteArray.toList_eq]))
      have hXD : D = X := by
        have h1 := hdg.out
        have h2 : dgF fu 0 X.data.toList = X.data.toList := by
          cases fu with
          | zero => rfl
          | succ g =>
            rw [show dgF (g + 1) 0 X.data.toList = if 0 < 0 ∨ X.data.toList = [] then dgF g (0 / 10) (UInt8.ofNat (48 + 0 % 10) :: X.data.toList) else X.data.toList from rfl, if_neg]
            rintro (h | h)
            · omega
            · exact hXn (ByteArray.ext (Array.toList_inj.1 h))
        rw [h2] at h1
        rw [hD.out]
        exact (ByteArray.ext (Array.toList_inj.1 h1)).symm
      have hmi : ¬(0 : Int) < ((0 : Nat) : Int) := by omega
      have hX4 : X.toList.isEmpty = false := by simpa using hX2
      clear hgo hXn hdg hfu hX0 hX2
      subst hXD
      have hT3 := hDs
      obtain ⟨⟨ua, hpu⟩, z, hpv⟩ := HT2.out
      have z1 : ByteArray.size ⟨#[32, 111, 114, 100, 101, 114, 32]⟩ = 7 := rfl
      have z2 : ByteArray.size ⟨#[32, 108, 105, 109, 105, 116, 32]⟩ = 7 := rfl
      have z3 : ByteArray.size ⟨#[32, 105, 100, 32, 61, 32, 49]⟩ = 7 := rfl
      have z4 : ByteArray.size ⟨#[32, 100, 111, 119, 110]⟩ = 5 := rfl
      have hTB : (s ++ ⟨#[32, 111, 114, 100, 101, 114, 32]⟩ ++ F ++ ⟨#[32, 100, 111, 119, 110]⟩).size ≤ 3019 := by simp only [app_size, z1, z4]; omega
      have HPU := HPX.out ((s ++ ⟨#[32, 111, 114, 100, 101, 114, 32]⟩ ++ F ++ ⟨#[32, 100, 111, 119, 110]⟩) ++ ⟨#[32, 108, 105, 109, 105, 116, 32]⟩ ++ D) wr (by rw [app_size, app_size]; omega)
      have HPV := fun W => HPX.out ((s ++ ⟨#[32, 111, 114, 100, 101, 114, 32]⟩ ++ F ++ ⟨#[32, 100, 111, 119, 110]⟩) ++ ⟨#[32, 108, 105, 109, 105, 116, 32]⟩ ++ D ++ ⟨#[32, 105, 100, 32, 61, 32, 49]⟩) W (by rw [app_size, app_size, app_size]; omega)
      rw [hpu] at HPU
      rw [hpv] at HPV
      clear z1 z2 z3 z4 hpu hpv HT2 HPX
      obtain ⟨zn, zo, zd, zl, zc⟩ := z
      have hTBi : ((s ++ ⟨#[32, 111, 114, 100, 101, 114, 32]⟩ ++ F ++ ⟨#[32, 100, 111, 119, 110]⟩).size : Int) ≤ 3019 := by omega
      have hDi : (D.size : Int) ≤ 3 := by omega
      replace HPU := hid HPU
      replace HPV := hid HPV
      generalize hTBB : (s ++ ⟨#[32, 111, 114, 100, 101, 114, 32]⟩ ++ F ++ ⟨#[32, 100, 111, 119, 110]⟩) = TB at *
      replace hTBB := hid hTBB
      go_wp2_with fail
      refine HPU.out.mono ?_
      rintro e w3 ⟨v, rfl, ⟨c0, c1, c2, c3, c4, rfl, hin⟩, g3⟩
      simp only at hin ⊢
      obtain ⟨vk, vp, vn, vc, vf, vs, vx, e⟩ := NodeR.In.value hin
      simp only [Value.agg.injEq, Array.mk.injEq, List.cons.injEq, and_true] at e
      obtain ⟨rfl, rfl, rfl, rfl, rfl⟩ := e
      have hB := hid (heap_new w3 (.cells #[.int .i64 vk, .slice vp vn vc, .string vf, .string vs, .int .i64 vx, .string F, .bool true, .int .i64 (m : Int), .bool pc] 26))
      have gB := hid (Grow.alloc w3 (.cells #[.int .i64 vk, .slice vp vn vc, .string vf, .string vs, .int .i64 vx, .string F, .bool true, .int .i64 (m : Int), .bool pc] 26))
      have G3 := hid (HG.out.trans (Grow.trans g3 gB.out))
      have NB := hid hin
      clear hin g3
      go_wp2_with fail
      refine (HPV.out _).mono ?_
      rintro e w4 ⟨v, rfl, ⟨c0, c1, c2, c3, c4, rfl, hin⟩, g4⟩
      simp only at hin ⊢
      obtain ⟨xk, xp, xn, xc, xf, xs, xx, e⟩ := NodeR.In.value hin
      simp only [Value.agg.injEq, Array.mk.injEq, List.cons.injEq, and_true] at e
      obtain ⟨rfl, rfl, rfl, rfl, rfl⟩ := e
      clear hin
      have gC := hid (Grow.alloc w4 (.cells #[.int .i64 xk, .slice xp xn xc, .string xf, .string xs, .int .i64 xx, .string zo, .bool zd, .int .i64 zl, .bool zc] 26))
      have G4 := hid (G3.out.trans g4)
      have hA4 := hid (G4.out.heap hA.out)
      have hB4 := hid (g4.heap hB.out)
      have hzA := heap_lt hA4.out
      have hzB := heap_lt hB4.out
      have RS := RSame_c pn.wt pn pn _ _ _ _ _ (Nat.le_refl _) FA.out.1 (NA.out _ (gA.out.trans (G4.out.trans gC.out))) (NodeR.In.grow (gB.out.trans (Grow.trans g4 gC.out)) NB.out)
      rw [(sameN_iff pn pn).2 rfl] at RS
      replace RS := hid RS
      clear g4 NA NB FA HPU HPV hB
      have p0 : w4.cell? ⟨K, 0, none⟩ = some (.int .i64 uk) := by rw [heap_cell hA4.out]; rfl
      have p1 : w4.cell? ⟨K, 1, none⟩ = some (.slice up un uc) := by rw [heap_cell hA4.out]; rfl
      have p2 : w4.cell? ⟨K, 2, none⟩ = some (.string uf) := by rw [heap_cell hA4.out]; rfl
      have p3 : w4.cell? ⟨K, 3, none⟩ = some (.string us) := by rw [heap_cell hA4.out]; rfl
      have p4 : w4.cell? ⟨K, 4, none⟩ = some (.int .i64 ux) := by rw [heap_cell hA4.out]; rfl
      have q0 : w4.cell? ⟨w3.heap.size, 0, none⟩ = some (.int .i64 vk) := by rw [heap_cell hB4.out]; rfl
      have q1 : w4.cell? ⟨w3.heap.size, 1, none⟩ = some (.slice vp vn vc) := by rw [heap_cell hB4.out]; rfl
      have q2 : w4.cell? ⟨w3.heap.size, 2, none⟩ = some (.string vf) := by rw [heap_cell hB4.out]; rfl
      have q3 : w4.cell? ⟨w3.heap.size, 3, none⟩ = some (.string vs) := by rw [heap_cell hB4.out]; rfl
      have q4 : w4.cell? ⟨w3.heap.size, 4, none⟩ = some (.int .i64 vx) := by rw [heap_cell hB4.out]; rfl
      generalize w3.heap.size = K3 at *
      go_wp2_with fail
      refine RS.out.mono ?_
      rintro e w5 ⟨rfl, g5⟩
      have hA5 := hid ((gC.out.trans g5).heap hA4.out)
      have hB5 := hid ((gC.out.trans g5).heap hB4.out)
      have G5 := hid (G4.out.trans (gC.out.trans g5))
      clear p0 p1 p2 p3 p4 q0 q1 q2 q3 q4 g5
      have p8 : w5.cell? ⟨K, 8, none⟩ = some (.bool pc) := by rw [heap_cell hA5.out]; rfl
      have q5 : w5.cell? ⟨K3, 5, none⟩ = some (.string F) := by rw [heap_cell hB5.out]; rfl
      have q6 : w5.cell? ⟨K3, 6, none⟩ = some (.bool true) := by rw [heap_cell hB5.out]; rfl
      have q7 : w5.cell? ⟨K3, 7, none⟩ = some (.int .i64 (m : Int)) := by rw [heap_cell hB5.out]; rfl
      have q8 : w5.cell? ⟨K3, 8, none⟩ = some (.bool pc) := by rw [heap_cell hB5.out]; rfl
      go_wp2_with fail
      refine (HW.out _ (G1.out.trans G5.out)).mono ?_
      rintro e w6 ⟨rfl, g6⟩
      go_wp2_with fail
      go_ret
      exact ⟨rfl, (G1.out.trans G5.out).trans g6⟩
theorem Tails_walk (s : ByteArray) (f : Int) (d : Bool) (l : Int) (w : World) (l0 : s.size ≤ 140737488351232) (f0 : 0 ≤ f) (f1 : f ≤ 255) (m0 : 0 ≤ l) (m1 : l ≤ 4294967295) (ht1 : tabSpace w) (ht2 : tabPow w) :
    Calls Tryd.prog 7 #[.string s, .int .u8 f, .bool d, .int .u32 l] w fun e w' => e = .returned (.bool true) ∧ Below w.heap.size w w' := by
  obtain ⟨f, rfl⟩ := Int.eq_ofNat_of_zero_le f0
  obtain ⟨l, rfl⟩ := Int.eq_ofNat_of_zero_le m0
  cases d with
  | false => exact Tails_false s f l w l0 (by omega) (by omega) ht1 ht2
  | true => exact Tails_true s f l w l0 (by omega) (by omega) ht1 ht2
namespace LawQueryTails
open Go.ChangeShapes Go.WideShapes Go.ChangeAt Go.RowKit
open Go.ChangeMaps (open_string shut_string)
theorem own : ownKnob Tryd.prog.godebug = none := by kernel_rfl
theorem laidOut : laidOutB Tryd.prog = true := by kernel_rfl
set_option maxRecDepth 100000 in
theorem lifted (os : Os) (started : os.Started) (H : Type) (enc : TypeId × Value → H) :
    ReturnsInHanded {} Tryd.checked os 7 .any (fun w args => (Rows.queryTailsSpec.pre enc Tryd.prog Tryd.f7 [] false w args ∧ laidMetH Tryd.prog laidL w) ∧ sizedMet enc Tryd.prog Tryd.f7 (OpenSpec.ofChange Rows.queryTailsSpec) false w args) (Rows.queryTailsSpec.post enc Tryd.prog Tryd.f7 false true false false) := by
  refine returnsInHanded_of_change_and (C := Tryd.checked) (X := fun w _ => laidMetH Tryd.prog laidL w) (fun _ _ _ hh h => h.of_heap hh) own started (by kernel_rfl) Tryd.func7
    (ChangeSpec.witness_shaped (enc := enc) (C := Tryd.checked) (os := os) (X := fun w _ => laidMetH Tryd.prog laidL w) false (World.doorLaid Tryd.prog 48 os) #[.string ByteArray.empty, .int .u8 0, .bool false, .int .u32 0] 8 rfl (World.shaped_of_RefB (by kernel_rfl) (by kernel_rfl)) (by kernel_rfl) (by kernel_rfl) (by kernel_rfl) (door_met os _)) ?_
  intro W base args ds gs before hval0 hW hcnd hsz hL _
  have hval : ∀ (j : Nat) t v, Tryd.f7.params[j]? = some t → args[j]? = some v → Value.okWide Tryd.prog W .any base t v := hval0
  obtain ⟨ht1, ht2⟩ := tabs_of_laid hL
  have hW' := hW
  obtain ⟨p, q, hA0, hV, rfl, hfz, hnd⟩ := hW
  have hA : DataW.TrodAll enc Tryd.prog W 0 (fun _ => true) true Tryd.f7.params.toList args.toList ds p := hA0
  rw [Tryd.params7] at hA hval hsz
  obtain ⟨v0, vs0, d0, ds0, p0, q0, hargs, rfl, rfl, h0, r0⟩ := trodAll_cons hA
  obtain ⟨v1, vs1, d1, ds1, p1, q1, rfl, rfl, rfl, h1, r1⟩ := trodAll_cons r0
  obtain ⟨v2, vs2, d2, ds2, p2, q2, rfl, rfl, rfl, h2, r2⟩ := trodAll_cons r1
  obtain ⟨v3, vs3, d3, ds3, p3, q3, rfl, rfl, rfl, h3, r3⟩ := trodAll_cons r2
  obtain ⟨rfl, rfl, rfl⟩ := trodAll_nil r3
  obtain rfl : args = #[v0, v1, v2, v3] := by cases args; simp_all
  obtain ⟨rfl, rfl⟩ := trodVars_none hV
  obtain ⟨a0, rfl, rfl, rfl, w0⟩ := open_string Tryd.underlying9 (hval 0 9 v0 rfl rfl) h0
  have z0 : a0.size ≤ 140737488351232 := by
    have h := sized_string hsz (j := 0) (t := 9) (bytes := a0.data.toList) rfl rfl
    simpa [reachBytes] using h
  obtain ⟨a1, rfl, rfl, rfl, w1⟩ := open_int Tryd.underlying5 (hval 1 5 v1 rfl rfl) h1
  have b1 := wf_u8 w1
  obtain ⟨a2, rfl, rfl, rfl⟩ := open_bool Tryd.underlying4 (hval 2 4 v2 rfl rfl) h2
  obtain ⟨a3, rfl, rfl, rfl, w3⟩ := open_int Tryd.underlying41 (hval 3 41 v3 rfl rfl) h3
  have b3 := wf_u32 w3
  clear hA0 hval0
  refine (Tails_walk a0 a1 a2 a3  W z0 b1.1 b1.2  b3.1 b3.2 ht1 ht2).mono fun e W' ⟨he, bel⟩ => ?_
  subst he
  exact ⟨_, rfl, _, _, _, [], _, [], hW', trodAll_mk1 (shut_bool Tryd.underlying4 _), (trodAll_cons_mk (shut_string Tryd.underlying9 w0) (trodAll_cons_mk (shut_int Tryd.underlying5 w1) (trodAll_cons_mk (shut_bool Tryd.underlying4 _) (trodAll_cons_mk (shut_int Tryd.underlying41 w3) trodAll_mk0)))), rfl, bel.frame _, fun h => by cases h⟩
theorem over : Rows.queryTailsRow.holds Tryd.pinned (OpenSpec.ofChange Rows.queryTailsSpec) :=
  OpenClaim.holds_of_wide 7 Tryd.f7 rfl rfl rfl rfl rfl rfl rfl ⟨rfl, rfl, rfl, rfl, rfl⟩ rfl rfl rfl rfl rfl (by kernel_rfl) Tryd.func7 (by kernel_rfl)
    (of_decide_eq_true (by kernel_rfl)) (by unfold Func.isWrapper; first | (rw [if_pos (by decide +kernel)]; kernel_rfl) | (rw [if_neg (by decide +kernel)]; exact ⟨rfl, rfl⟩))
    (fun os started H enc _ => lifted os started H enc)
end LawQueryTails
/-- The given statement: the tied card. -/
theorem queryTails_proved : Rows.QueryTailsCardSaid :=
  Claim7.holds_tied_plain_at .later [] [.data, .data, .data, .listed, .data] true (true, "95201100b90d23e864d10c69b3da32f70030d937e4d7b485caf5136514669ad6") true
    LawQueryTails.over (fun _ h => by cases h) (by kernel_rfl) (fun _ h => by cases h) queryTails_row_tie rfl ⟨rfl, rfl⟩ (by kernel_rfl) rfl
    (fun f fn hf hfn => by
      obtain rfl : f = 7 := Option.some.inj ((show Tryd.prog.funcNamed Rows.queryTailsRow.func = some 7 by kernel_rfl).symm.trans hf) |>.symm
      obtain rfl : fn = Tryd.f7 := (Option.some.inj (Tryd.func7.symm.trans hfn)).symm
      exact ⟨by kernel_rfl, fun j t ht => by
        rw [Tryd.params7] at ht
        have hm : t ∈ [9, 5, 4, 41] := by simpa using Array.mem_of_getElem? ht
        have hall : ([9, 5, 4, 41].all fun u => !Tryd.prog.wantsStandIn u) = true := by kernel_rfl
        exact (show Tryd.prog.wantsStandIn t = false by simpa using List.all_eq_true.1 hall t hm)⟩)
    (by kernel_rfl)
#print axioms queryTails_proved
end Go.Proofs.YteilkcdbdpkbfaaDoor
