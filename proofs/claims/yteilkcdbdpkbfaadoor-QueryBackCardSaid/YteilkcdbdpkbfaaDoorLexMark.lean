/- What the lexer's mark and the reference's class, end and markAt compute. -/
import Derived.Test.YteilkcdbdpkbfaaDoorLexSmall
namespace Go.Proofs.YteilkcdbdpkbfaaDoor
open Go.RowKit
set_option linter.unusedVariables false
set_option linter.unusedSimpArgs false

/-- Is the second text the first one's beginning? -/
def pre (s p : ByteArray) : Bool := decide (p.size ≤ s.size) && ((s.extract 0 p.size).toList == p.toList)
theorem HasPrefix_c (s p : ByteArray) (w : World) (hs : s.size ≤ 140737488351232) (hp : p.size ≤ 140737488351232) : Calls Tryd.prog 56 #[.string s, .string p] w fun e w' => e = .returned (.bool (pre s p)) ∧ w = w' := by
  unfold pre
  by_cases h : p.size ≤ s.size
  · rw [decide_eq_true h, Bool.true_and]
    go_enter Tryd.func56, Tryd.ntmps56
    go_wp2
    go_ret
    exact ⟨rfl, rfl⟩
  · rw [decide_eq_false h, Bool.false_and]
    go_enter Tryd.func56, Tryd.ntmps56
    go_wp2
    go_ret
    exact ⟨rfl, rfl⟩
/-- The eight marks, the longer ones ahead. -/
def mk (k : Nat) : ByteArray := match k with
  | 0 => ⟨#[33, 61]⟩ | 1 => ⟨#[60, 61]⟩ | 2 => ⟨#[62, 61]⟩ | 3 => ⟨#[61]⟩ | 4 => ⟨#[60]⟩ | 5 => ⟨#[62]⟩ | 6 => ⟨#[40]⟩ | _ => ⟨#[41]⟩
def mks : Array Value := #[.string ⟨#[33, 61]⟩, .string ⟨#[60, 61]⟩, .string ⟨#[62, 61]⟩, .string ⟨#[61]⟩, .string ⟨#[60]⟩, .string ⟨#[62]⟩, .string ⟨#[40]⟩, .string ⟨#[41]⟩]
theorem mks_at (k : Nat) (h : k < 8) : mks[k]? = some (.string (mk k)) := by
  match k, h with
  | 0, _ => rfl
  | 1, _ => rfl
  | 2, _ => rfl
  | 3, _ => rfl
  | 4, _ => rfl
  | 5, _ => rfl
  | 6, _ => rfl
  | 7, _ => rfl
theorem mk_size (k : Nat) : (mk k).size ≤ 2 := by
  unfold mk
  split <;> decide
theorem pre_iff (s p : ByteArray) : pre s p = true ↔ s.data.toList.take p.size = p.data.toList := by
  unfold pre
  rw [Bool.and_eq_true, decide_eq_true_eq, beq_iff_eq, ByteArray.toList_eq, ByteArray.toList_eq]
  have e : (s.extract 0 p.size).data.toList = s.data.toList.take p.size := by simp [ByteArray.data_extract]
  rw [e]
  constructor
  · exact fun h => h.2
  · intro h
    have hl := congrArg List.length h
    simp only [List.length_take, Array.length_toList, ByteArray.size_data] at hl
    exact ⟨by omega, h⟩
/-- The first mark that a text begins with, and what it is. -/
theorem mark_find (s : ByteArray) (hs : 0 < s.size) : ∃ m, m ≤ 8 ∧ (∀ j, j < m → pre s (mk j) = false) ∧ (m < 8 → pre s (mk m) = true ∧ mk m = ⟨(s.data.toList.take (markN s.data.toList)).toArray⟩) ∧ (m = 8 → markN s.data.toList = 0) := by
  have P : ∀ (j : Nat) (q : Prop) [Decidable q], ((s.data.toList.take (mk j).size = (mk j).data.toList) = q) → pre s (mk j) = decide q := fun j q _ h => by
    rw [Bool.eq_iff_iff, pre_iff, decide_eq_true_eq, h]
  have hne : s.data.toList ≠ [] := by
    intro h
    have := congrArg List.length h
    rw [Array.length_toList, ByteArray.size_data] at this
    simp only [List.length_nil] at this
    omega
  generalize hp : (fun j => pre s (mk j)) = F
  have hpj : ∀ j, pre s (mk j) = F j := fun j => by rw [← hp]
  simp only [hpj] at P ⊢
  clear hpj hp
  generalize s.data.toList = L at *
  obtain ⟨a, l, rfl⟩ : ∃ a l, L = a :: l := by cases L with
    | nil => exact absurd rfl hne
    | cons a l => exact ⟨a, l, rfl⟩
  have key : ∀ c : UInt8, (a = c) = (a.toNat = c.toNat) := fun c => propext ⟨fun h => by rw [h], fun h => UInt8.toNat_inj.1 h⟩
  have one : ∀ c : UInt8, (List.take 1 (a :: l) = [c]) = (a.toNat = c.toNat) := fun c => by simp [key]
  have two : ∀ c : UInt8, (List.take 2 (a :: l) = [c, 61]) = (a.toNat = c.toNat ∧ hd l = 61) := fun c => by
    cases l with
    | nil => simp [hd]
    | cons b l => simp [key, hd, ← UInt8.toNat_inj]
  have tw2 : hd l = 61 → ∃ b l', l = b :: l' ∧ b = 61 := fun h => by
    cases l with
    | nil => simp [hd] at h
    | cons b l' => exact ⟨b, l', rfl, UInt8.toNat_inj.1 h⟩
  have hm : markN (a :: l) = if (a.toNat = 33 ∨ a.toNat = 60 ∨ a.toNat = 62) ∧ hd l = 61 then 2 else if a.toNat = 61 ∨ a.toNat = 60 ∨ a.toNat = 62 ∨ a.toNat = 40 ∨ a.toNat = 41 then 1 else 0 := rfl
  have d0 := P 0 _ (two 33)
  have d1 := P 1 _ (two 60)
  have d2 := P 2 _ (two 62)
  have d3 := P 3 _ (one 61)
  have d4 := P 4 _ (one 60)
  have d5 := P 5 _ (one 62)
  have d6 := P 6 _ (one 40)
  have d7 := P 7 _ (one 41)
  have w2 : ∀ (k : Nat) (c : UInt8), markN (a :: l) = 2 → hd l = 61 → a.toNat = c.toNat → (mk k).data.toList = [c, 61] → mk k = ⟨((a :: l).take (markN (a :: l))).toArray⟩ := by
    intro k c h1 h2 h3 h4
    obtain ⟨b, l', rfl, rfl⟩ := tw2 h2
    rw [h1]
    apply ByteArray.ext
    apply Array.toList_inj.1
    rw [h4, ← UInt8.toNat_inj.1 h3]
    rfl
  have w1 : ∀ (k : Nat) (c : UInt8), markN (a :: l) = 1 → a.toNat = c.toNat → (mk k).data.toList = [c] → mk k = ⟨((a :: l).take (markN (a :: l))).toArray⟩ := by
    intro k c h1 h3 h4
    rw [h1]
    apply ByteArray.ext
    apply Array.toList_inj.1
    rw [h4, ← UInt8.toNat_inj.1 h3]
    rfl
  by_cases c0 : a.toNat = 33 ∧ hd l = 61
  · refine ⟨0, by omega, fun j hj => ?_, fun _ => ⟨by rw [d0]; exact decide_eq_true c0, w2 0 33 (by rw [hm, if_pos (by omega)]) c0.2 c0.1 rfl⟩, by omega⟩
    omega
  by_cases c1 : a.toNat = 60 ∧ hd l = 61
  · refine ⟨1, by omega, fun j hj => ?_, fun _ => ⟨by rw [d1]; exact decide_eq_true c1, w2 1 60 (by rw [hm, if_pos (by omega)]) c1.2 c1.1 rfl⟩, by omega⟩
    obtain rfl : j = 0 := by omega
    rw [d0]; exact decide_eq_false c0
  by_cases c2 : a.toNat = 62 ∧ hd l = 61
  · refine ⟨2, by omega, fun j hj => ?_, fun _ => ⟨by rw [d2]; exact decide_eq_true c2, w2 2 62 (by rw [hm, if_pos (by omega)]) c2.2 c2.1 rfl⟩, by omega⟩
    obtain rfl | rfl : j = 0 ∨ j = 1 := by omega
    · rw [d0]; exact decide_eq_false c0
    · rw [d1]; exact decide_eq_false c1
  have hm2 : markN (a :: l) = if a.toNat = 61 ∨ a.toNat = 60 ∨ a.toNat = 62 ∨ a.toNat = 40 ∨ a.toNat = 41 then 1 else 0 := by rw [hm, if_neg (by omega)]
  by_cases c3 : a.toNat = 61
  · refine ⟨3, by omega, fun j hj => ?_, fun _ => ⟨by rw [d3]; exact decide_eq_true c3, w1 3 61 (by rw [hm2, if_pos (by omega)]) c3 rfl⟩, by omega⟩
    obtain rfl | rfl | rfl : j = 0 ∨ j = 1 ∨ j = 2 := by omega
    · rw [d0]; exact decide_eq_false c0
    · rw [d1]; exact decide_eq_false c1
    · rw [d2]; exact decide_eq_false c2
  by_cases c4 : a.toNat = 60
  · refine ⟨4, by omega, fun j hj => ?_, fun _ => ⟨by rw [d4]; exact decide_eq_true c4, w1 4 60 (by rw [hm2, if_pos (by omega)]) c4 rfl⟩, by omega⟩
    obtain rfl | rfl | rfl | rfl : j = 0 ∨ j = 1 ∨ j = 2 ∨ j = 3 := by omega
    · rw [d0]; exact decide_eq_false c0
    · rw [d1]; exact decide_eq_false c1
    · rw [d2]; exact decide_eq_false c2
    · rw [d3]; exact decide_eq_false c3
  by_cases c5 : a.toNat = 62
  · refine ⟨5, by omega, fun j hj => ?_, fun _ => ⟨by rw [d5]; exact decide_eq_true c5, w1 5 62 (by rw [hm2, if_pos (by omega)]) c5 rfl⟩, by omega⟩
    obtain rfl | rfl | rfl | rfl | rfl : j = 0 ∨ j = 1 ∨ j = 2 ∨ j = 3 ∨ j = 4 := by omega
    · rw [d0]; exact decide_eq_false c0
    · rw [d1]; exact decide_eq_false c1
    · rw [d2]; exact decide_eq_false c2
    · rw [d3]; exact decide_eq_false c3
    · rw [d4]; exact decide_eq_false c4
  by_cases c6 : a.toNat = 40
  · refine ⟨6, by omega, fun j hj => ?_, fun _ => ⟨by rw [d6]; exact decide_eq_true c6, w1 6 40 (by rw [hm2, if_pos (by omega)]) c6 rfl⟩, by omega⟩
    obtain rfl | rfl | rfl | rfl | rfl | rfl : j = 0 ∨ j = 1 ∨ j = 2 ∨ j = 3 ∨ j = 4 ∨ j = 5 := by omega
    · rw [d0]; exact decide_eq_false c0
    · rw [d1]; exact decide_eq_false c1
    · rw [d2]; exact decide_eq_false c2
    · rw [d3]; exact decide_eq_false c3
    · rw [d4]; exact decide_eq_false c4
    · rw [d5]; exact decide_eq_false c5
  by_cases c7 : a.toNat = 41
  · refine ⟨7, by omega, fun j hj => ?_, fun _ => ⟨by rw [d7]; exact decide_eq_true c7, w1 7 41 (by rw [hm2, if_pos (by omega)]) c7 rfl⟩, by omega⟩
    obtain rfl | rfl | rfl | rfl | rfl | rfl | rfl : j = 0 ∨ j = 1 ∨ j = 2 ∨ j = 3 ∨ j = 4 ∨ j = 5 ∨ j = 6 := by omega
    · rw [d0]; exact decide_eq_false c0
    · rw [d1]; exact decide_eq_false c1
    · rw [d2]; exact decide_eq_false c2
    · rw [d3]; exact decide_eq_false c3
    · rw [d4]; exact decide_eq_false c4
    · rw [d5]; exact decide_eq_false c5
    · rw [d6]; exact decide_eq_false c6
  refine ⟨8, by omega, fun j hj => ?_, by omega, fun _ => by rw [hm2, if_neg (by omega)]⟩
  obtain rfl | rfl | rfl | rfl | rfl | rfl | rfl | rfl : j = 0 ∨ j = 1 ∨ j = 2 ∨ j = 3 ∨ j = 4 ∨ j = 5 ∨ j = 6 ∨ j = 7 := by omega
  · rw [d0]; exact decide_eq_false c0
  · rw [d1]; exact decide_eq_false c1
  · rw [d2]; exact decide_eq_false c2
  · rw [d3]; exact decide_eq_false c3
  · rw [d4]; exact decide_eq_false c4
  · rw [d5]; exact decide_eq_false c5
  · rw [d6]; exact decide_eq_false c6
  · rw [d7]; exact decide_eq_false c7
set_option maxRecDepth 100000 in
set_option maxHeartbeats 1000000 in
theorem mark_c (s : ByteArray) (w : World) (hs : s.size ≤ 140737488351232) (h0 : 0 < s.size) : Calls Tryd.prog 42 #[.string s] w fun e w' => e = .returned (.string ⟨(s.data.toList.take (markN s.data.toList)).toArray⟩) ∧ Grow w w' := by
  obtain ⟨m, hm, hf, ht, h8⟩ := mark_find s h0
  have HC := hid (fun (p : ByteArray) (w : World) hp => HasPrefix_c s p w hs hp)
  have HE := hid (show m = 8 → (⟨(s.data.toList.take (markN s.data.toList)).toArray⟩ : ByteArray) = ⟨#[]⟩ from fun h => by rw [h8 h]; rfl)
  clear h8
  generalize (⟨(s.data.toList.take (markN s.data.toList)).toArray⟩ : ByteArray) = T at *
  have HF := hid hf
  have HT := hid ht
  clear hf ht
  go_enter Tryd.func42, Tryd.ntmps42
  go_wp2_with fail
  have HB := hid (heap_new w (.cells mks 9))
  unfold mks at HB
  generalize hW : (w.alloc (.cells #[.string ⟨#[33, 61]⟩, .string ⟨#[60, 61]⟩, .string ⟨#[62, 61]⟩, .string ⟨#[61]⟩, .string ⟨#[60]⟩, .string ⟨#[62]⟩, .string ⟨#[40]⟩, .string ⟨#[41]⟩] 9)) = W at *
  have hgW : Grow w W := by rw [← hW]; exact Grow.alloc _ _
  clear hW
  go_loop [7] (fun i => ∃ k : Nat, k ≤ m ∧ i = .int .i64 k) (fun i => 8 - (intOf i).toNat)
  case atStart => exact ⟨0, by omega, rfl⟩
  case round =>
    obtain ⟨k, hk, rfl⟩ := hrel
    by_cases hlt : k < m
    · have hc : W.cell? ⟨w.heap.size, k, none⟩ = some (.string (mk k)) := by rw [heap_cell HB.out]; exact mks_at k (by omega)
      have hp := hid (HF.out k hlt)
      have hz := mk_size k
      generalize mk k = p at *
      have hk8 : (k : Int) < 8 := by omega
      go_wp2_with fail
      refine (HC.out p _ (by omega)).mono ?_
      rintro e w1 ⟨rfl, rfl⟩
      rw [hp.out]
      go_wp2_with fail
      go_round
      case rel => exact ⟨k + 1, by omega, by go_num⟩
      case measure => simp [intOf]; omega
    · obtain rfl : k = m := by omega
      by_cases hk8 : k < 8
      · have hc : W.cell? ⟨w.heap.size, k, none⟩ = some (.string (mk k)) := by rw [heap_cell HB.out]; exact mks_at k (by omega)
        have hp := hid (HT.out hk8)
        have hz := mk_size k
        generalize mk k = p at *
        have hk8 : (k : Int) < 8 := by omega
        go_wp2_with fail
        refine (HC.out p _ (by omega)).mono ?_
        rintro e w1 ⟨rfl, rfl⟩
        rw [hp.out.1]
        go_wp2_with fail
        go_ret
        exact ⟨by rw [hp.out.2]; rfl, hgW⟩
      · obtain rfl : k = 8 := by omega
        go_wp2_with fail
        go_ret
        exact ⟨by rw [show T = ⟨#[]⟩ from by first | exact HE.out rfl | exact HE.out trivial]; rfl, hgW⟩

/-- The class of the byte at a place. -/
def classN (L : List UInt8) : Nat := match L with
  | [] => 0
  | b :: _ => if isLet b then 1 else if isDig b then 2 else 0
theorem class_end (s : ByteArray) (i : Nat) (h : s.size ≤ i) : classN (s.data.toList.drop i) = 0 := by
  rw [List.drop_eq_nil_of_le (by simpa using h)]; rfl
theorem drop_at (s : ByteArray) (i : Nat) (h : i < s.size) : s.data.toList.drop i = s[i] :: s.data.toList.drop (i + 1) := by
  rw [List.drop_eq_getElem_cons (by simpa using h)]; rfl
theorem class_at (s : ByteArray) (i : Nat) (h : i < s.size) : classN (s.data.toList.drop i) = if isLet s[i] then 1 else if isDig s[i] then 2 else 0 := by
  rw [drop_at s i h]; rfl
set_option maxHeartbeats 1000000 in
theorem class_c (s : ByteArray) (i : Nat) (w : World) (hs : s.size ≤ 140737488351232) (hi : i ≤ 140737488351233) : Calls Tryd.prog 33 #[.string s, .int .i64 i] w fun e w' => e = .returned (.int .i64 (classN (s.data.toList.drop i))) ∧ w = w' := by
  by_cases h : i < s.size
  · rw [class_at s i h]
    have hb8 := (s[i]).toNat_lt
    by_cases h1 : 97 ≤ (s[i]).toNat
    · by_cases h2 : (s[i]).toNat ≤ 122
      · rw [if_pos (by simp [isLet, h1, h2])]
        go_enter Tryd.func33, Tryd.ntmps33
        go_wp2_with fail
        go_ret
        exact ⟨rfl, rfl⟩
      · have h3 : 122 < (s[i]).toNat := by omega
        have h4 : 57 < (s[i]).toNat := by omega
        have h5 : 48 ≤ (s[i]).toNat := by omega
        rw [if_neg (by simp [isLet]; omega), if_neg (by simp [isDig]; omega)]
        clear h2
        go_enter Tryd.func33, Tryd.ntmps33
        go_wp2_with fail
        go_ret
        exact ⟨rfl, rfl⟩
    · have h1' : (s[i]).toNat < 97 := by omega
      rw [if_neg (by simp [isLet]; omega)]
      by_cases h2 : 48 ≤ (s[i]).toNat
      · by_cases h3 : (s[i]).toNat ≤ 57
        · rw [if_pos (by simp [isDig]; omega)]
          clear h1
          go_enter Tryd.func33, Tryd.ntmps33
          go_wp2_with fail
          go_ret
          exact ⟨rfl, rfl⟩
        · have h3' : 57 < (s[i]).toNat := by omega
          rw [if_neg (by simp [isDig]; omega)]
          clear h1 h3
          go_enter Tryd.func33, Tryd.ntmps33
          go_wp2_with fail
          go_ret
          exact ⟨rfl, rfl⟩
      · have h2' : (s[i]).toNat < 48 := by omega
        rw [if_neg (by simp [isDig]; omega)]
        clear h1 h2
        go_enter Tryd.func33, Tryd.ntmps33
        go_wp2_with fail
        go_ret
        exact ⟨rfl, rfl⟩
  · rw [class_end s i (by omega)]
    have h' : s.size ≤ i := by omega
    clear h
    go_enter Tryd.func33, Tryd.ntmps33
    go_wp2_with fail
    go_ret
    exact ⟨rfl, rfl⟩
/-- Where bytes of a class end. -/
def clsP (k : Nat) (b : UInt8) : Bool := if k = 1 then isLet b else isDig b
theorem class_iff {k : Nat} (hk : k = 1 ∨ k = 2) (L : List UInt8) : classN L = k ↔ ∃ b l, L = b :: l ∧ clsP k b = true := by
  cases L with
  | nil => simp [classN]; omega
  | cons b l =>
    simp only [classN, List.cons.injEq, clsP]
    rcases hk with rfl | rfl
    · by_cases h : isLet b
      · simp [h]
      · simp [h]; split <;> omega
    · by_cases h : isLet b
      · have : isDig b = false := by simp [isLet, isDig] at *; omega
        simp [h, this]
      · simp [h]
set_option maxHeartbeats 1000000 in
set_option maxRecDepth 100000 in
theorem end_c (s : ByteArray) (i : Nat) (k : Nat) (w : World) (hk : k = 1 ∨ k = 2) (hs : s.size ≤ 140737488351232) (hi : i ≤ s.size) :
    Calls Tryd.prog 34 #[.string s, .int .i64 i, .int .i64 k] w fun e w' => e = .returned (.int .i64 ((i + ((s.data.toList.drop i).takeWhile (clsP k)).length : Nat) : Int)) ∧ w = w' := by
  have h1 := tw_lt (clsP k) (s.data.toList.drop i)
  have h2 := tw_end (clsP k) (s.data.toList.drop i)
  have hle := takeWhile_len_le (clsP k) (s.data.toList.drop i)
  have hsz : (s.data.toList.drop i).length = s.size - i := by simp
  have HL : ∀ j, j < ((s.data.toList.drop i).takeWhile (clsP k)).length → classN (s.data.toList.drop (i + j)) = k := by
    intro j hj
    rw [class_iff hk]
    refine ⟨s[i + j]'(by omega), _, drop_at s (i + j) (by omega), ?_⟩
    have := h1 j hj (by omega)
    rw [List.getElem_drop] at this
    exact this
  have HE : classN (s.data.toList.drop (i + ((s.data.toList.drop i).takeWhile (clsP k)).length)) ≠ k := by
    rw [Ne, class_iff hk]
    rintro ⟨b, l, e, hb⟩
    have hlt : i + ((s.data.toList.drop i).takeWhile (clsP k)).length < s.size := by
      rcases Nat.lt_or_ge (i + ((s.data.toList.drop i).takeWhile (clsP k)).length) s.size with h | h
      · exact h
      · rw [List.drop_eq_nil_of_le (by simpa using h)] at e
        cases e
    have := h2 (by omega)
    rw [List.getElem_drop] at this
    rw [drop_at s _ hlt] at e
    injection e with e1 e2
    rw [← e1] at hb
    have h3 : clsP k s[i + ((s.data.toList.drop i).takeWhile (clsP k)).length] = false := this
    rw [h3] at hb
    cases hb
  clear h1 h2
  generalize ((s.data.toList.drop i).takeWhile (clsP k)).length = n at *
  have HL := hid HL
  have HE := hid HE
  have HC := hid (fun (j : Nat) (w : World) h => class_c s j w hs h)
  have hkk : (k : Int) ≤ 2 := by omega
  clear hk
  go_enter Tryd.func34, Tryd.ntmps34
  go_wp2_with fail
  go_loop [1] (fun q => ∃ j : Nat, j ≤ n ∧ q = .int .i64 ((i + j : Nat) : Int)) (fun q => s.size - (intOf q).toNat)
  case atStart => exact ⟨0, by omega, rfl⟩
  case round =>
    obtain ⟨j, hj, rfl⟩ := hrel
    by_cases hlt : j < n
    · have hq := hid (HL.out j hlt)
      go_wp2_with fail
      refine (HC.out (i + j) _ (by omega)).mono ?_
      rintro e w1 ⟨rfl, rfl⟩
      rw [hq.out]
      go_wp2_with fail
      go_round
      case rel => exact ⟨j + 1, by omega, by go_num⟩
      case measure => simp [intOf]; omega
    · obtain rfl : j = n := by omega
      have hq : ((classN (s.data.toList.drop (i + j)) : Nat) : Int) ≠ (k : Int) := fun h => HE.out (by omega)
      have hq' := hid hq
      clear hq
      go_wp2_with fail
      refine (HC.out (i + j) _ (by omega)).mono ?_
      rintro e w1 ⟨rfl, rfl⟩
      generalize ((classN (s.data.toList.drop (i + j)) : Nat) : Int) = C at *
      have hf : (C == (k : Int)) = false := by simpa using hq'.out
      go_wp2_with fail
      go_ret
      exact ⟨rfl, rfl⟩
theorem hd_at (s : ByteArray) (i : Nat) (h : i < s.size) : hd (s.data.toList.drop i) = (s[i]).toNat := by rw [drop_at s i h]; rfl
theorem hd_end (s : ByteArray) (i : Nat) (h : s.size ≤ i) : hd (s.data.toList.drop i) = 0 := by rw [List.drop_eq_nil_of_le (by simpa using h)]; rfl
set_option maxHeartbeats 1000000 in
set_option maxRecDepth 100000 in
theorem markAt_c (s : ByteArray) (i : Nat) (w : World) (hs : s.size ≤ 140737488351232) (hi : i < s.size) :
    Calls Tryd.prog 36 #[.string s, .int .i64 i] w fun e w' => e = .returned (.int .i64 (markN (s.data.toList.drop i))) ∧ w = w' := by
  have hm : markN (s.data.toList.drop i) = if ((s[i]).toNat = 33 ∨ (s[i]).toNat = 60 ∨ (s[i]).toNat = 62) ∧ hd (s.data.toList.drop (i + 1)) = 61 then 2 else if (s[i]).toNat = 61 ∨ (s[i]).toNat = 60 ∨ (s[i]).toNat = 62 ∨ (s[i]).toNat = 40 ∨ (s[i]).toNat = 41 then 1 else 0 := by
    unfold markN
    rw [hd_at s i hi, List.drop_drop]
  rw [hm]
  clear hm
  by_cases h1 : i + 1 < s.size
  · rw [hd_at s (i + 1) h1]
    go_enter Tryd.func36, Tryd.ntmps36
    go_wp2_with fail
    all_goals
      go_ret
      first
      | exact ⟨rfl, rfl⟩
      | (exfalso; simp only [beq_iff_eq, beq_eq_false_iff_ne, ne_eq] at *; omega)
  · rw [hd_end s (i + 1) (by omega)]
    have h2 : s.size ≤ i + 1 := by omega
    clear h1
    go_enter Tryd.func36, Tryd.ntmps36
    go_wp2_with fail
    all_goals
      go_ret
      first
      | exact ⟨rfl, rfl⟩
      | (exfalso; simp only [beq_iff_eq, beq_eq_false_iff_ne, ne_eq] at *; omega)
end Go.Proofs.YteilkcdbdpkbfaaDoor
