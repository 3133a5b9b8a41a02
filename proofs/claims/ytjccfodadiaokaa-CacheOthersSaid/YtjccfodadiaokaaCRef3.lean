/- What the reference's calls compute: Put. -/
import Derived.Test.YtjccfodadiaokaaCRef2
namespace Go.Proofs.Ytjccfodadiaokaa
open Go.RowKit
set_option linter.unusedVariables false
set_option linter.unusedSimpArgs false
/-- The last one without a pin: its key, and whether there is one. -/
def freeK (l : List CItem) : Int × Bool := match lastFree l with
  | some i => ((l.getD i noItem).key, true)
  | none => (0, false)
theorem lastFree_snoc (x : CItem) : ∀ l : List CItem, lastFree (l ++ [x]) = if 0 < x.pins then lastFree l else some l.length
  | [] => by simp [lastFree]
  | y :: l => by
    have ih := lastFree_snoc x l
    rw [List.cons_append, lastFree, ih, lastFree]
    by_cases hx : 0 < x.pins
    · simp only [if_pos hx]
    · simp only [if_neg hx]
      simp
theorem freeK_snoc (l : List CItem) (x : CItem) (hx : 0 ≤ x.pins) : freeK (l ++ [x]) = if x.pins = 0 then (x.key, true) else freeK l := by
  unfold freeK
  rw [lastFree_snoc]
  by_cases h : x.pins = 0
  · rw [if_neg (by omega), if_pos h]
    dsimp only
    congr 2
    simp [List.getD]
  · rw [if_pos (by omega), if_neg h]
    cases hf : lastFree l with
    | none => rfl
    | some i =>
      obtain ⟨hi, -, -⟩ := lastFree_some hf
      dsimp only
      congr 2
      simp [List.getD, List.getElem?_append_left hi]
set_option maxRecDepth 100000 in
set_option maxHeartbeats 1000000 in
theorem RPutIn_c (most : Int) (v : Value) (l : List CItem) (k : Int) (s : ByteArray) (i : Nat) (w : World) (hv : ROwn w v l) (hl : l.length ≤ 9999) (hi : i < l.length) (hk : (l[i]).key = k) (hb : ∀ j (h : j < l.length), j < i → (l[j]).key ≠ k) :
    Calls Try.prog 36 #[.agg #[.int .i64 most, v], .int .i64 k, .string s] w fun e w' => (∃ v', e = .returned (.tuple #[.agg #[.int .i64 most, v'], .int .i64 0, .bool false, .int .i64 0]) ∧ ROwn w' v' ({ l[i] with val := s } :: without k l)) ∧ Grow w w' := by
  have HF := hid (fun (w' : World) (g : Grow w w') => RFindIn_c most v l k i w' (hv.grow g).items hi hk hb)
  have HA := hid (fun (w' : World) (g : Grow w w') => Rahead_c most v l { l[i] with val := s } w' (hv.grow g) hl)
  dsimp only at HA
  rw [hk] at HA
  generalize l[i] = x at *
  obtain ⟨A, c, rfl, -, -, -⟩ := hv.items
  clear hv hb
  generalize l.length = n at *
  obtain ⟨key, val, pins⟩ := x
  unfold rrow at HF HA
  unfold CPost at HA
  dsimp only at HF HA hk ⊢
  obtain rfl := hk
  generalize hL : (⟨key, s, pins⟩ : CItem) :: without key l = L at *
  clear hL
  have G2 := hid (Grow.trans (Grow.alloc w (.cells #[.int .i64 most, .slice A n c] 57)) (Grow.alloc _ (.cells #[.int .i64 0, .slice none 0 0] 57)))
  have B0 := hid (heap_alloc_keep (heap_new w (.cells #[.int .i64 most, .slice A n c] 57)) (.cells #[.int .i64 0, .slice none 0 0] 57))
  have B1 := hid (heap_newAt (g := w.heap.size + 1) (w.alloc (.cells #[.int .i64 most, .slice A n c] 57)) (.cells #[.int .i64 0, .slice none 0 0] 57) (by simp))
  go_enter Try.func36, Try.ntmps36
  go_wp2_with fail
  refine (HF.out _ G2.out).mono ?_
  rintro e w4 ⟨rfl, g4⟩
  have b0 := g4.heap B0.out
  have b1 := g4.heap B1.out
  have hg4 := Grow.trans G2.out g4
  have G4 := hid hg4
  clear g4 B0 B1 G2 HF hg4
  have p0 : w4.cell? ⟨w.heap.size, 0, none⟩ = some (.int .i64 most) := by rw [heap_cell b0]; rfl
  have p1 : w4.cell? ⟨w.heap.size, 1, none⟩ = some (.slice A n c) := by rw [heap_cell b0]; rfl
  have q0 : w4.cell? ⟨w.heap.size + 1, 0, none⟩ = some (.int .i64 0) := by rw [heap_cell b1]; rfl
  have q1 : w4.cell? ⟨w.heap.size + 1, 1, none⟩ = some (.slice none 0 0) := by rw [heap_cell b1]; rfl
  have q2 : w4.frozen? ⟨w.heap.size + 1, 0, none⟩ = false := heap_frozen b1 0 (by omega)
  have q3 : w4.frozen? ⟨w.heap.size + 1, 1, none⟩ = false := heap_frozen b1 1 (by omega)
  have hl1 := heap_lt b1
  have hl0 := heap_lt b0
  have K1 := hid b1
  clear b0 b1
  go_wp2_with fail
  refine (HA.out _ (Grow.trans G4.out (Grow.alloc w4 (.cells #[.int .i64 key, .string s, .int .i64 pins] 53)))).mono ?_
  rintro e w5 ⟨v5, rfl, o5, g5⟩
  have k1 := g5.heap ((Grow.alloc w4 (.cells #[.int .i64 key, .string s, .int .i64 pins] 53)).heap K1.out)
  have G5 := hid (Grow.trans (Grow.trans G4.out (Grow.alloc w4 (.cells #[.int .i64 key, .string s, .int .i64 pins] 53))) g5)
  clear q0 q1 q2 q3
  have q0 : w5.cell? ⟨w.heap.size + 1, 0, none⟩ = some (.int .i64 0) := by rw [heap_cell k1]; rfl
  have q1 : w5.cell? ⟨w.heap.size + 1, 1, none⟩ = some (.slice none 0 0) := by rw [heap_cell k1]; rfl
  have q2 : w5.frozen? ⟨w.heap.size + 1, 0, none⟩ = false := heap_frozen k1 0 (by omega)
  have q3 : w5.frozen? ⟨w.heap.size + 1, 1, none⟩ = false := heap_frozen k1 1 (by omega)
  have KK := hid k1
  have OO := hid o5
  obtain ⟨⟨bb, ho⟩, -⟩ := o5
  obtain ⟨A5, c5, rfl⟩ := own_form ho
  clear ho g5 k1
  go_wp2_with fail
  (try simp only [Exit.inBlock, Exit.then])
  refine bodyPost_ret (v := .tuple #[.agg #[.int .i64 most, .slice A5 L.length c5], .int .i64 0, .bool false, .int .i64 0]) ?_ rfl ⟨⟨_, rfl, ?_⟩, ?_⟩
  · refine results_cellK4 (fn := Try.f36) (p := 6) (u := 7) (u2 := 8) (u3 := 9) rfl _ _ (w.heap.size + 1) 57 _ (0, 0) _ rfl (heap_set (heap_set KK.out 0 _) 1 _) Try.underlying57 rfl ?_
    kernel_rfl
  · exact OO.out.set2 KK.out _ _
  · exact Below.setCell (Below.setCell G5.out (by show w.heap.size ≤ w.heap.size + 1; omega) _) (by show w.heap.size ≤ w.heap.size + 1; omega) _
set_option maxRecDepth 100000 in
set_option maxHeartbeats 1000000 in
theorem RPutRoom_c (most : Int) (v : Value) (l : List CItem) (k : Int) (s : ByteArray) (w : World) (hv : ROwn w v l) (hl : l.length ≤ 9999) (hb : ∀ x ∈ l, x.key ≠ k) (hr : (l.length : Int) < most) :
    Calls Try.prog 36 #[.agg #[.int .i64 most, v], .int .i64 k, .string s] w fun e w' => (∃ v', e = .returned (.tuple #[.agg #[.int .i64 most, v'], .int .i64 0, .bool false, .int .i64 0]) ∧ ROwn w' v' (⟨k, s, 0⟩ :: without k l)) ∧ Grow w w' := by
  have HF := hid (fun (w' : World) (g : Grow w w') => RFindNo_c most v l k w' (hv.grow g).items hb)
  have HA := hid (fun (w' : World) (g : Grow w w') => Rahead_c most v l ⟨k, s, 0⟩ w' (hv.grow g) hl)
  dsimp only at HA
  obtain ⟨A, c, rfl, -, -, -⟩ := hv.items
  clear hv hb
  generalize hL : (⟨k, s, 0⟩ : CItem) :: without k l = L at *
  generalize l.length = n at *
  unfold rrow noItem at HF
  unfold rrow CPost at HA
  dsimp only at HF HA ⊢
  clear hL
  have G2 := hid (Grow.trans (Grow.alloc w (.cells #[.int .i64 most, .slice A n c] 57)) (Grow.alloc _ (.cells #[.int .i64 0, .slice none 0 0] 57)))
  have B0 := hid (heap_alloc_keep (heap_new w (.cells #[.int .i64 most, .slice A n c] 57)) (.cells #[.int .i64 0, .slice none 0 0] 57))
  have B1 := hid (heap_newAt (g := w.heap.size + 1) (w.alloc (.cells #[.int .i64 most, .slice A n c] 57)) (.cells #[.int .i64 0, .slice none 0 0] 57) (by simp))
  go_enter Try.func36, Try.ntmps36
  go_wp2_with fail
  refine (HF.out _ G2.out).mono ?_
  rintro e w4 ⟨rfl, g4⟩
  have b0 := g4.heap B0.out
  have b1 := g4.heap B1.out
  have hg4 := Grow.trans G2.out g4
  have G4 := hid hg4
  clear g4 B0 B1 G2 HF hg4
  have p0 : w4.cell? ⟨w.heap.size, 0, none⟩ = some (.int .i64 most) := by rw [heap_cell b0]; rfl
  have p1 : w4.cell? ⟨w.heap.size, 1, none⟩ = some (.slice A n c) := by rw [heap_cell b0]; rfl
  have q0 : w4.cell? ⟨w.heap.size + 1, 0, none⟩ = some (.int .i64 0) := by rw [heap_cell b1]; rfl
  have q1 : w4.cell? ⟨w.heap.size + 1, 1, none⟩ = some (.slice none 0 0) := by rw [heap_cell b1]; rfl
  have q2 : w4.frozen? ⟨w.heap.size + 1, 0, none⟩ = false := heap_frozen b1 0 (by omega)
  have q3 : w4.frozen? ⟨w.heap.size + 1, 1, none⟩ = false := heap_frozen b1 1 (by omega)
  have hl1 := heap_lt b1
  have hl0 := heap_lt b0
  have K1 := hid b1
  clear b0 b1
  go_wp2_with fail
  refine (HA.out _ (Grow.trans G4.out (Grow.alloc w4 (.cells #[.int .i64 0, .string ByteArray.empty, .int .i64 0] 53)))).mono ?_
  rintro e w5 ⟨v5, rfl, o5, g5⟩
  have k1 := g5.heap ((Grow.alloc w4 (.cells #[.int .i64 0, .string ByteArray.empty, .int .i64 0] 53)).heap K1.out)
  have G5 := hid (Grow.trans (Grow.trans G4.out (Grow.alloc w4 (.cells #[.int .i64 0, .string ByteArray.empty, .int .i64 0] 53))) g5)
  clear q0 q1 q2 q3
  have q0 : w5.cell? ⟨w.heap.size + 1, 0, none⟩ = some (.int .i64 0) := by rw [heap_cell k1]; rfl
  have q1 : w5.cell? ⟨w.heap.size + 1, 1, none⟩ = some (.slice none 0 0) := by rw [heap_cell k1]; rfl
  have q2 : w5.frozen? ⟨w.heap.size + 1, 0, none⟩ = false := heap_frozen k1 0 (by omega)
  have q3 : w5.frozen? ⟨w.heap.size + 1, 1, none⟩ = false := heap_frozen k1 1 (by omega)
  have KK := hid k1
  have OO := hid o5
  obtain ⟨⟨bb, ho⟩, -⟩ := o5
  obtain ⟨A5, c5, rfl⟩ := own_form ho
  clear ho g5 k1
  go_wp2_with fail
  (try simp only [Exit.inBlock, Exit.then])
  refine bodyPost_ret (v := .tuple #[.agg #[.int .i64 most, .slice A5 L.length c5], .int .i64 0, .bool false, .int .i64 0]) ?_ rfl ⟨⟨_, rfl, ?_⟩, ?_⟩
  · refine results_cellK4 (fn := Try.f36) (p := 6) (u := 7) (u2 := 8) (u3 := 9) rfl _ _ (w.heap.size + 1) 57 _ (0, 0) _ rfl (heap_set (heap_set KK.out 0 _) 1 _) Try.underlying57 rfl ?_
    kernel_rfl
  · exact OO.out.set2 KK.out _ _
  · exact Below.setCell (Below.setCell G5.out (by show w.heap.size ≤ w.heap.size + 1; omega) _) (by show w.heap.size ≤ w.heap.size + 1; omega) _
set_option maxRecDepth 100000 in
set_option maxHeartbeats 1000000 in
theorem RPutFull_c (most : Int) (v : Value) (l : List CItem) (k : Int) (s : ByteArray) (w : World) (hv : ROwn w v l) (hl : l.length ≤ 9999) (hb : ∀ x ∈ l, x.key ≠ k) (hr : ¬ (l.length : Int) < most) (hp : ∀ x ∈ l, 0 ≤ x.pins) (hf : (freeK l).2 = false) :
    Calls Try.prog 36 #[.agg #[.int .i64 most, v], .int .i64 k, .string s] w fun e w' => (∃ v', e = .returned (.tuple #[.agg #[.int .i64 most, v'], .int .i64 0, .bool false, .int .i64 12]) ∧ ROwn w' v' l) ∧ Grow w w' := by
  have HF := hid (fun (w' : World) (g : Grow w w') => RFindNo_c most v l k w' (hv.grow g).items hb)
  have HV := hid hv
  obtain ⟨A, c, rfl, hl6, -, hca⟩ := hv.items
  have HX := hid (show ∀ j (hj : j < l.length), ∃ g, A = some ⟨g, 0, none⟩ ∧ ItemAt w g (j * 3) l[j] ∧ freeK (l.take (j + 1)) = if (l[j]).pins = 0 then ((l[j]).key, true) else freeK (l.take j) from fun j hj => by
    obtain ⟨g, e, h⟩ := hca (by omega)
    exact ⟨g, e, h j hj, by rw [List.take_succ_eq_append_getElem hj, freeK_snoc _ _ (hp _ (List.getElem_mem hj))]⟩)
  have HFK := hid (show freeK l = freeK (l.take l.length) from by rw [List.take_length])
  rw [HFK.out] at hf
  clear hv hb hca hp hl6 HFK
  obtain ⟨n, hN⟩ : ∃ n, n = l.length := ⟨_, rfl⟩
  rw [← hN] at hl hr hf
  rw [← hN] at HF HV ⊢
  have HN := hid hN
  have HFF := hid hf
  clear hN hf
  unfold rrow noItem at HF
  dsimp only at HF ⊢
  have G2 := hid (Grow.trans (Grow.alloc w (.cells #[.int .i64 most, .slice A n c] 57)) (Grow.alloc _ (.cells #[.int .i64 0, .slice none 0 0] 57)))
  have B0 := hid (heap_alloc_keep (heap_new w (.cells #[.int .i64 most, .slice A n c] 57)) (.cells #[.int .i64 0, .slice none 0 0] 57))
  have B1 := hid (heap_newAt (g := w.heap.size + 1) (w.alloc (.cells #[.int .i64 most, .slice A n c] 57)) (.cells #[.int .i64 0, .slice none 0 0] 57) (by simp))
  go_enter Try.func36, Try.ntmps36
  go_wp2_with fail
  refine (HF.out _ G2.out).mono ?_
  rintro e w4 ⟨rfl, g4⟩
  have b0 := g4.heap B0.out
  have b1 := g4.heap B1.out
  have hg4 := Grow.trans G2.out g4
  have G4 := hid hg4
  clear g4 B0 B1 G2 HF hg4
  have p0 : w4.cell? ⟨w.heap.size, 0, none⟩ = some (.int .i64 most) := by rw [heap_cell b0]; rfl
  have p1 : w4.cell? ⟨w.heap.size, 1, none⟩ = some (.slice A n c) := by rw [heap_cell b0]; rfl
  have q0 : w4.cell? ⟨w.heap.size + 1, 0, none⟩ = some (.int .i64 0) := by rw [heap_cell b1]; rfl
  have q1 : w4.cell? ⟨w.heap.size + 1, 1, none⟩ = some (.slice none 0 0) := by rw [heap_cell b1]; rfl
  have q2 : w4.frozen? ⟨w.heap.size + 1, 0, none⟩ = false := heap_frozen b1 0 (by omega)
  have q3 : w4.frozen? ⟨w.heap.size + 1, 1, none⟩ = false := heap_frozen b1 1 (by omega)
  have hl1 := heap_lt b1
  have hl0 := heap_lt b0
  have K1 := hid b1
  clear b0 b1
  have hpa : w.heap.size ≠ w.heap.size + 1 := by omega
  go_wp2_with fail
  have GW := hid (Grow.alloc w4 (.cells #[.int .i64 0, .string ByteArray.empty, .int .i64 0] 53))
  have hsz : (w4.alloc (.cells #[.int .i64 0, .string ByteArray.empty, .int .i64 0] 53)).heap.size = w4.heap.size + 1 := by simp
  have P0 := (GW.out.cell p0)
  have P1 := (GW.out.cell p1)
  have Q0 := GW.out.cell q0
  have Q1 := GW.out.cell q1
  have kw := GW.out.heap K1.out
  have Q2 : (w4.alloc (.cells #[.int .i64 0, .string ByteArray.empty, .int .i64 0] 53)).frozen? ⟨w.heap.size + 1, 0, none⟩ = false := heap_frozen kw 0 (by omega)
  have Q3 : (w4.alloc (.cells #[.int .i64 0, .string ByteArray.empty, .int .i64 0] 53)).frozen? ⟨w.heap.size + 1, 1, none⟩ = false := heap_frozen kw 1 (by omega)
  have KW := hid kw
  have GG := hid (Grow.trans G4.out GW.out)
  clear p0 p1 q0 q1 q2 q3 kw GW K1 G4
  generalize w4.alloc (.cells #[.int .i64 0, .string ByteArray.empty, .int .i64 0] 53) = W at *
  generalize w4.heap.size = D at *
  go_loopw [12, 13, 14] (fun a b q wr => ∃ j : Nat, j ≤ n ∧ q = .int .i64 (j : Int) ∧ a = .int .i64 (freeK (l.take j)).1 ∧ b = .bool (freeK (l.take j)).2 ∧ wr = W) (fun _ _ q _ => n - (intOf q).toNat)
  case atStart => exact ⟨0, by omega, rfl, rfl, rfl, rfl⟩
  case round =>
    obtain ⟨j, hj, rfl, rfl, rfl, rfl⟩ := hrel
    have hj0 : (0 : Int) ≤ (j : Int) := by omega
    by_cases hlt : j < n
    · have hj1 : (j : Int) < (n : Int) := by omega
      have hj2 : j < l.length := by have := HN.out; omega
      obtain ⟨g, rfl, ha, hst⟩ := HX.out j hj2
      obtain ⟨x, hx⟩ : ∃ x, l[j] = x := ⟨_, rfl⟩
      rw [hx] at ha hst
      clear hx
      obtain ⟨key, val, pins⟩ := x
      unfold ItemAt at ha
      dsimp only at ha hst
      obtain ⟨a0, a1, a2⟩ := ha
      replace a0 := GG.out.cell a0
      replace a1 := GG.out.cell a1
      replace a2 := GG.out.cell a2
      by_cases hk : pins = 0
      · rw [if_pos hk] at hst
        have e0 : (pins == 0) = true := by simp [hk]
        have HST1 := hid hst
        clear hst
        generalize freeK (l.take j) = fr at *
        obtain ⟨f1, f2⟩ := fr
        dsimp only
        go_wp2_with fail
        refine ⟨⟨j + 1, by omega, by push_cast; rfl, by rw [HST1.out], by rw [HST1.out], ?_⟩, ?_⟩
        · trivial
        · simp [intOf]; omega
      · rw [if_neg hk] at hst
        have e0 : (pins == 0) = false := by simp [hk]
        have HST1 := hid hst
        clear hst
        generalize freeK (l.take j) = fr at *
        obtain ⟨f1, f2⟩ := fr
        dsimp only
        go_wp2_with fail
        refine ⟨⟨j + 1, by omega, by push_cast; rfl, by rw [HST1.out], by rw [HST1.out], ?_⟩, ?_⟩
        · trivial
        · simp [intOf]; omega
    · obtain rfl : j = n := by omega
      have hj1 : ¬ (j : Int) < (j : Int) := by omega
      have hff := HFF.out
      generalize freeK (l.take j) = fr at *
      obtain ⟨f1, f2⟩ := fr
      dsimp only at hff ⊢
      subst hff
      go_wp2_with fail
      (try simp only [Exit.inBlock, Exit.then])
      refine bodyPost_ret (v := .tuple #[.agg #[.int .i64 most, .slice A j c], .int .i64 0, .bool false, .int .i64 12]) ?_ rfl ⟨⟨_, rfl, ?_⟩, ?_⟩
      · refine results_cellK4 (fn := Try.f36) (p := 6) (u := 7) (u2 := 8) (u3 := 9) rfl _ _ (w.heap.size + 1) 57 _ (0, 0) _ rfl (heap_set (heap_set KW.out 0 _) 1 _) Try.underlying57 rfl ?_
        kernel_rfl
      · exact (HV.out.grow GG.out).set2 KW.out _ _
      · exact Below.setCell (Below.setCell GG.out (by show w.heap.size ≤ w.heap.size + 1; omega) _) (by show w.heap.size ≤ w.heap.size + 1; omega) _
set_option maxRecDepth 100000 in
set_option maxHeartbeats 1000000 in
theorem RPutOut_c (most : Int) (v : Value) (l : List CItem) (k : Int) (s : ByteArray) (w : World) (hv : ROwn w v l) (hl : l.length ≤ 9999) (hb : ∀ x ∈ l, x.key ≠ k) (hr : ¬ (l.length : Int) < most) (hp : ∀ x ∈ l, 0 ≤ x.pins) (fk : Int) (hf : freeK l = (fk, true)) :
    Calls Try.prog 36 #[.agg #[.int .i64 most, v], .int .i64 k, .string s] w fun e w' => (∃ v', e = .returned (.tuple #[.agg #[.int .i64 most, v'], .int .i64 fk, .bool true, .int .i64 0]) ∧ ROwn w' v' (⟨k, s, 0⟩ :: without k (without fk l))) ∧ Grow w w' := by
  have HF := hid (fun (w' : World) (g : Grow w w') => RFindNo_c most v l k w' (hv.grow g).items hb)
  have HD := hid (fun (w' : World) (g : Grow w w') => RDrop_c most v l fk w' (hv.grow g))
  have hwl : (without fk l).length ≤ 9999 := Nat.le_trans (by have := without_len fk l l.length; rwa [List.take_length] at this) hl
  have HA := hid (fun (v' : Value) (w' : World) (o : ROwn w' v' (without fk l)) => Rahead_c most v' (without fk l) ⟨k, s, 0⟩ w' o hwl)
  dsimp only at HA
  have HV := hid hv
  obtain ⟨A, c, rfl, hl6, -, hca⟩ := hv.items
  have HX := hid (show ∀ j (hj : j < l.length), ∃ g, A = some ⟨g, 0, none⟩ ∧ ItemAt w g (j * 3) l[j] ∧ freeK (l.take (j + 1)) = if (l[j]).pins = 0 then ((l[j]).key, true) else freeK (l.take j) from fun j hj => by
    obtain ⟨g, e, h⟩ := hca (by omega)
    exact ⟨g, e, h j hj, by rw [List.take_succ_eq_append_getElem hj, freeK_snoc _ _ (hp _ (List.getElem_mem hj))]⟩)
  have HFK := hid (show freeK l = freeK (l.take l.length) from by rw [List.take_length])
  rw [HFK.out] at hf
  clear hv hb hca hp hl6 HFK
  generalize hL : (⟨k, s, 0⟩ : CItem) :: without k (without fk l) = L at *
  generalize hL1 : without fk l = L1 at *
  clear hL hL1 hwl
  unfold rrow CPost at HA
  obtain ⟨n, hN⟩ : ∃ n, n = l.length := ⟨_, rfl⟩
  rw [← hN] at hl hr hf
  rw [← hN] at HD HF HV ⊢
  have HN := hid hN
  have HFF := hid hf
  clear hN hf
  unfold rrow noItem at HF
  dsimp only at HF ⊢
  have G2 := hid (Grow.trans (Grow.alloc w (.cells #[.int .i64 most, .slice A n c] 57)) (Grow.alloc _ (.cells #[.int .i64 0, .slice none 0 0] 57)))
  have B0 := hid (heap_alloc_keep (heap_new w (.cells #[.int .i64 most, .slice A n c] 57)) (.cells #[.int .i64 0, .slice none 0 0] 57))
  have B1 := hid (heap_newAt (g := w.heap.size + 1) (w.alloc (.cells #[.int .i64 most, .slice A n c] 57)) (.cells #[.int .i64 0, .slice none 0 0] 57) (by simp))
  go_enter Try.func36, Try.ntmps36
  go_wp2_with fail
  refine (HF.out _ G2.out).mono ?_
  rintro e w4 ⟨rfl, g4⟩
  have b0 := g4.heap B0.out
  have b1 := g4.heap B1.out
  have hg4 := Grow.trans G2.out g4
  have G4 := hid hg4
  clear g4 B0 B1 G2 HF hg4
  have p0 : w4.cell? ⟨w.heap.size, 0, none⟩ = some (.int .i64 most) := by rw [heap_cell b0]; rfl
  have p1 : w4.cell? ⟨w.heap.size, 1, none⟩ = some (.slice A n c) := by rw [heap_cell b0]; rfl
  have q0 : w4.cell? ⟨w.heap.size + 1, 0, none⟩ = some (.int .i64 0) := by rw [heap_cell b1]; rfl
  have q1 : w4.cell? ⟨w.heap.size + 1, 1, none⟩ = some (.slice none 0 0) := by rw [heap_cell b1]; rfl
  have q2 : w4.frozen? ⟨w.heap.size + 1, 0, none⟩ = false := heap_frozen b1 0 (by omega)
  have q3 : w4.frozen? ⟨w.heap.size + 1, 1, none⟩ = false := heap_frozen b1 1 (by omega)
  have hl1 := heap_lt b1
  have hl0 := heap_lt b0
  have K1 := hid b1
  clear b0 b1
  have hpa : w.heap.size ≠ w.heap.size + 1 := by omega
  go_wp2_with fail
  have GW := hid (Grow.alloc w4 (.cells #[.int .i64 0, .string ByteArray.empty, .int .i64 0] 53))
  have hsz : (w4.alloc (.cells #[.int .i64 0, .string ByteArray.empty, .int .i64 0] 53)).heap.size = w4.heap.size + 1 := by simp
  have P0 := (GW.out.cell p0)
  have P1 := (GW.out.cell p1)
  have Q0 := GW.out.cell q0
  have Q1 := GW.out.cell q1
  have kw := GW.out.heap K1.out
  have Q2 : (w4.alloc (.cells #[.int .i64 0, .string ByteArray.empty, .int .i64 0] 53)).frozen? ⟨w.heap.size + 1, 0, none⟩ = false := heap_frozen kw 0 (by omega)
  have Q3 : (w4.alloc (.cells #[.int .i64 0, .string ByteArray.empty, .int .i64 0] 53)).frozen? ⟨w.heap.size + 1, 1, none⟩ = false := heap_frozen kw 1 (by omega)
  have KW := hid kw
  have GG := hid (Grow.trans G4.out GW.out)
  clear p0 p1 q0 q1 q2 q3 kw GW K1 G4
  generalize w4.alloc (.cells #[.int .i64 0, .string ByteArray.empty, .int .i64 0] 53) = W at *
  generalize w4.heap.size = D at *
  go_loopw [12, 13, 14] (fun a b q wr => ∃ j : Nat, j ≤ n ∧ q = .int .i64 (j : Int) ∧ a = .int .i64 (freeK (l.take j)).1 ∧ b = .bool (freeK (l.take j)).2 ∧ wr = W) (fun _ _ q _ => n - (intOf q).toNat)
  case atStart => exact ⟨0, by omega, rfl, rfl, rfl, rfl⟩
  case round =>
    obtain ⟨j, hj, rfl, rfl, rfl, rfl⟩ := hrel
    have hj0 : (0 : Int) ≤ (j : Int) := by omega
    by_cases hlt : j < n
    · have hj1 : (j : Int) < (n : Int) := by omega
      have hj2 : j < l.length := by have := HN.out; omega
      obtain ⟨g, rfl, ha, hst⟩ := HX.out j hj2
      obtain ⟨x, hx⟩ : ∃ x, l[j] = x := ⟨_, rfl⟩
      rw [hx] at ha hst
      clear hx
      obtain ⟨key, val, pins⟩ := x
      unfold ItemAt at ha
      dsimp only at ha hst
      obtain ⟨a0, a1, a2⟩ := ha
      replace a0 := GG.out.cell a0
      replace a1 := GG.out.cell a1
      replace a2 := GG.out.cell a2
      by_cases hk : pins = 0
      · rw [if_pos hk] at hst
        have e0 : (pins == 0) = true := by simp [hk]
        have HST1 := hid hst
        clear hst
        generalize freeK (l.take j) = fr at *
        obtain ⟨f1, f2⟩ := fr
        dsimp only
        go_wp2_with fail
        refine ⟨⟨j + 1, by omega, by push_cast; rfl, by rw [HST1.out], by rw [HST1.out], ?_⟩, ?_⟩
        · trivial
        · simp [intOf]; omega
      · rw [if_neg hk] at hst
        have e0 : (pins == 0) = false := by simp [hk]
        have HST1 := hid hst
        clear hst
        generalize freeK (l.take j) = fr at *
        obtain ⟨f1, f2⟩ := fr
        dsimp only
        go_wp2_with fail
        refine ⟨⟨j + 1, by omega, by push_cast; rfl, by rw [HST1.out], by rw [HST1.out], ?_⟩, ?_⟩
        · trivial
        · simp [intOf]; omega
    · obtain rfl : j = n := by omega
      have hj1 : ¬ (j : Int) < (j : Int) := by omega
      have hff := HFF.out
      rw [hff]
      dsimp only
      clear hff
      go_wp2_with fail
      refine (HD.out _ GG.out).mono ?_
      rintro e w3 ⟨v3, rfl, o3, g3⟩
      have HA3 := hid (HA.out v3 w3 o3)
      have GG3 := hid (Grow.trans GG.out g3)
      have KW3 := hid (g3.heap KW.out)
      obtain ⟨⟨bb, ho⟩, -⟩ := o3
      obtain ⟨A3, c3, rfl⟩ := own_form ho
      clear ho g3
      go_wp2_with fail
      refine HA3.out.mono ?_
      rintro e w5 ⟨v5, rfl, o5, g5⟩
      have k1 := g5.heap (KW3.out)
      have G5 := hid (Grow.trans (GG3.out) g5)
      clear Q0 Q1 Q2 Q3 P0 P1
      have q0 : w5.cell? ⟨w.heap.size + 1, 0, none⟩ = some (.int .i64 0) := by rw [heap_cell k1]; rfl
      have q1 : w5.cell? ⟨w.heap.size + 1, 1, none⟩ = some (.slice none 0 0) := by rw [heap_cell k1]; rfl
      have q2 : w5.frozen? ⟨w.heap.size + 1, 0, none⟩ = false := heap_frozen k1 0 (by omega)
      have q3 : w5.frozen? ⟨w.heap.size + 1, 1, none⟩ = false := heap_frozen k1 1 (by omega)
      have KK := hid k1
      have OO := hid o5
      obtain ⟨⟨bb, ho⟩, -⟩ := o5
      obtain ⟨A5, c5, rfl⟩ := own_form ho
      clear ho g5 k1
      go_wp2_with fail
      (try simp only [Exit.inBlock, Exit.then])
      refine bodyPost_ret (v := .tuple #[.agg #[.int .i64 most, .slice A5 L.length c5], .int .i64 fk, .bool true, .int .i64 0]) ?_ rfl ⟨⟨_, rfl, ?_⟩, ?_⟩
      · refine results_cellK4 (fn := Try.f36) (p := 6) (u := 7) (u2 := 8) (u3 := 9) rfl _ _ (w.heap.size + 1) 57 _ (0, 0) _ rfl (heap_set (heap_set KK.out 0 _) 1 _) Try.underlying57 rfl ?_
        kernel_rfl
      · exact OO.out.set2 KK.out _ _
      · exact Below.setCell (Below.setCell G5.out (by show w.heap.size ≤ w.heap.size + 1; omega) _) (by show w.heap.size ≤ w.heap.size + 1; omega) _
end Go.Proofs.Ytjccfodadiaokaa
