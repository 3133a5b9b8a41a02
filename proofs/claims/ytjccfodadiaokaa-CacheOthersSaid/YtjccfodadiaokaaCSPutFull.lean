/- What a cache's Put does without room. -/
import Derived.Test.YtjccfodadiaokaaCSPutAll
namespace Go.Proofs.Ytjccfodadiaokaa.Str
open Go.RowKit
set_option linter.unusedVariables false
set_option linter.unusedSimpArgs false
set_option maxRecDepth 100000 in
set_option maxHeartbeats 4000000 in
theorem PutFull_c (p : Nat) (most : Int) (v : Value) (l : List CItem) (k : ByteArray) (s : Int) (w : World) (hc : CacheAt w p most v l) (hl : l.length ≤ 1000000) (hm0 : 1 ≤ most) (hk : ∀ x ∈ l, x.key ≠ k) (hroom : most ≤ (l.length : Int)) (hall : ∀ q (h : q < l.length), 0 < (l[q]).pins) :
    Calls Try.prog 16 #[.pointer (some ⟨p, 0, none⟩), .string k, .int .i64 s] w fun e w' => e = .returned (.tuple #[.string ByteArray.empty, .bool false, .int .i64 12]) ∧ Grow w w' := by
  have HALL := hid hall
  have hmz : (most == 0) = false := by simp; omega
  clear hall
  have HP := hid (place_c p most v l k (-1) w hc hl (.inr ⟨rfl, hk⟩))
  have HC := hid hc
  have HOB := hid (fun j hj => (hc.2.lt j hj).2)
  obtain ⟨A, c, rfl, hlc, hcells⟩ := hc.form
  have c0 : w.cell? ⟨p, 0, none⟩ = some (.int .i64 most) := by rw [heap_cell hc.1]; rfl
  have c1 : w.cell? ⟨p, 1, none⟩ = some (.slice A l.length c) := by rw [heap_cell hc.1]; rfl
  have hplt := heap_lt hc.1
  have hn1 : 1 ≤ l.length := by omega
  obtain ⟨g, rfl, hpg, hsz, hcm, hat⟩ := hcells (by omega)
  have HAT := hid hat
  have hgl : g < w.heap.size := by obtain ⟨cur, h1, h2⟩ := hsz; exact heap_lt h1
  clear hc hk hcells hat hsz hcm
  have hlm : most ≤ (l.length : Int) := hroom
  have hbl : (l.length : Int) ≤ 1000000 := by omega
  obtain ⟨n, hn⟩ : ∃ n, n = l.length := ⟨_, rfl⟩
  rw [← hn] at c1 hl hlc hn1 hlm hbl
  have HN := hid hn
  clear hn hroom
  have hwn : IntKind.i64.wrap ((n : Int) - 1) = ((n - 1 : Nat) : Int) := by rw [IntKind.wrap_i64]; omega
  go_enter Try.func16, Try.ntmps16
  go_wp2_with fail
  refine HP.out.mono ?_
  rintro e w2 ⟨rfl, g2⟩
  have d0 := g2.cell c0
  have d1 := g2.cell c1
  have hpl2 : p < w2.heap.size := Nat.lt_of_lt_of_le hplt g2.size
  go_wp2_with fail
  go_quiet (fail)
  have hq0 : (w2.drewN nq).cell? ⟨p, 0, none⟩ = some (.int .i64 most) := d0
  have hq1 : (w2.drewN nq).cell? ⟨p, 1, none⟩ = some (.slice (some ⟨g, 0, none⟩) n c) := d1
  have GQ := hid (Grow.drewNM g2 nq)
  have hpl4 : p < (w2.drewN nq).heap.size := hpl2
  have hgl4 : g < (w2.drewN nq).heap.size := Nat.lt_of_lt_of_le hgl g2.size
  generalize w2.drewN nq = w4 at *
  clear d0 d1 c0 c1 hpl2 HP
  go_wp2_with fail
  go_loopw [12] (fun i wr => ((∃ j : Nat, j < n ∧ i = .int .i64 (j : Int)) ∨ i = .int .i64 (-1)) ∧ wr = w4) (fun i _ => (intOf i + 1).toNat)
  case atStart => exact ⟨.inl ⟨n - 1, by omega, rfl⟩, rfl⟩
  case round =>
    obtain ⟨hh, rfl⟩ := hrel
    rcases hh with ⟨j, hj, rfl⟩ | rfl
    · have HPIN := HALL.out j (by have := HN.out; omega)
      have ha := HAT.out j (by have := HN.out; omega)
      have hpin := HPIN
      obtain ⟨x, hx⟩ : ∃ x, l[j]'(by have := HN.out; omega) = x := ⟨_, rfl⟩
      rw [hx] at ha hpin
      clear hx HPIN
      obtain ⟨key, val, pins⟩ := x
      unfold ItemAt at ha
      dsimp only at ha hpin
      obtain ⟨a0, a1, a2⟩ := ha
      replace a0 := GQ.out.cell a0
      replace a2 := GQ.out.cell a2
      clear a1
      have hj0 : (0 : Int) ≤ (j : Int) := by omega
      have hj1 : (j : Int) < (n : Int) := by omega
      have hwj : IntKind.i64.wrap ((j : Int) - 1) = (j : Int) - 1 := by rw [IntKind.wrap_i64]; omega
      go_wp2_with fail
      go_roundw
      case rel =>
        refine ⟨?_, trivial⟩
        by_cases h0 : j = 0
        · right; rw [h0]; rfl
        · left; exact ⟨j - 1, by omega, by congr 1; omega⟩
      case measure => (simp [intOf]; try omega)
    · go_wp2_with fail
      go_ret3
      exact ⟨rfl, GQ.out⟩
set_option maxRecDepth 100000 in
set_option maxHeartbeats 4000000 in
theorem PutEvict_c (p : Nat) (most : Int) (v : Value) (l : List CItem) (k : ByteArray) (s : Int) (i : Nat) (w : World) (hc : CacheAt w p most v l) (hl : l.length ≤ 1000000) (hm0 : 1 ≤ most) (hk : ∀ x ∈ l, x.key ≠ k) (hroom : most ≤ (l.length : Int)) (hi : i < l.length) (hfree : ¬ 0 < (l[i]).pins) (hlast : ∀ q (h : q < l.length), i < q → 0 < (l[q]).pins) :
    Calls Try.prog 16 #[.pointer (some ⟨p, 0, none⟩), .string k, .int .i64 s] w fun e w' => e = .returned (.tuple #[.string (l[i]).key, .bool true, .int .i64 0]) ∧ ∃ v', CacheAt w' p most v' (⟨k, s, 0⟩ :: cutL i l) ∧ Moved p v.ownBlock w w' ∧ ∀ k, v'.ownBlock = some k → v.ownBlock = some k ∨ w.heap.size ≤ k := by
  have HLAST := hid hlast
  have HFREE := hid hfree
  have HI := hid hi
  have hmz : (most == 0) = false := by simp; omega
  have HD := hid (fun (w' : World) (g : Grow w w') => Delete_c l i v w' (p + 1) (hc.grow g).2 hi hl)
  have hcl : (cutL i l).length ≤ 1000000 := by rw [cutL_length i l hi]; omega
  have HIN := hid (fun (w' : World) (v' : Value) (ho : w'.ownsRow (p + 1) 79 3 v' (cutL i l).length (itemCells (cutL i l))) (hp : p + 1 ≤ w'.heap.size) vb hx hne => Insert_c (cutL i l) ⟨k, s, 0⟩ v' vb w' (p + 1) hp ho hcl hx hne)
  have hbi : i ≤ 1000000 := by omega
  clear hlast hfree hcl
  have HP := hid (place_c p most v l k (-1) w hc hl (.inr ⟨rfl, hk⟩))
  have HC := hid hc
  have HOB := hid (fun j hj => (hc.2.lt j hj).2)
  obtain ⟨A, c, rfl, hlc, hcells⟩ := hc.form
  have c0 : w.cell? ⟨p, 0, none⟩ = some (.int .i64 most) := by rw [heap_cell hc.1]; rfl
  have c1 : w.cell? ⟨p, 1, none⟩ = some (.slice A l.length c) := by rw [heap_cell hc.1]; rfl
  have hplt := heap_lt hc.1
  have hn1 : 1 ≤ l.length := by omega
  obtain ⟨g, rfl, hpg, hsz, hcm, hat⟩ := hcells (by omega)
  have HAT := hid hat
  have hgl : g < w.heap.size := by obtain ⟨cur, h1, h2⟩ := hsz; exact heap_lt h1
  clear hc hk hcells hat hsz hcm
  have hlm : most ≤ (l.length : Int) := hroom
  have hbl : (l.length : Int) ≤ 1000000 := by omega
  obtain ⟨n, hn⟩ : ∃ n, n = l.length := ⟨_, rfl⟩
  rw [← hn] at c1 hl hlc hn1 hlm hbl hi HD
  have HN := hid hn
  clear hn hroom
  have hwn : IntKind.i64.wrap ((n : Int) - 1) = ((n - 1 : Nat) : Int) := by rw [IntKind.wrap_i64]; omega
  go_enter Try.func16, Try.ntmps16
  go_wp2_with fail
  refine HP.out.mono ?_
  rintro e w2 ⟨rfl, g2⟩
  have d0 := g2.cell c0
  have d1 := g2.cell c1
  have hpl2 : p < w2.heap.size := Nat.lt_of_lt_of_le hplt g2.size
  go_wp2_with fail
  go_quiet (fail)
  have hq0 : (w2.drewN nq).cell? ⟨p, 0, none⟩ = some (.int .i64 most) := d0
  have hq1 : (w2.drewN nq).cell? ⟨p, 1, none⟩ = some (.slice (some ⟨g, 0, none⟩) n c) := d1
  have GQ := hid (Grow.drewNM g2 nq)
  have hpl4 : p < (w2.drewN nq).heap.size := hpl2
  have hgl4 : g < (w2.drewN nq).heap.size := Nat.lt_of_lt_of_le hgl g2.size
  generalize w2.drewN nq = w4 at *
  clear d0 d1 c0 c1 hpl2 HP
  go_wp2_with fail
  obtain ⟨gone, hgone⟩ : ∃ gone, gone = (l[i]'HI.out).key := ⟨_, rfl⟩
  have HG := hid hgone
  clear hgone
  go_loopw [12] (fun t wr => (∃ j : Nat, j < n ∧ i ≤ j ∧ t = .int .i64 (j : Int)) ∧ wr = w4) (fun t _ => (intOf t + 1).toNat)
  case atStart => exact ⟨⟨n - 1, by omega, by omega, rfl⟩, rfl⟩
  case round =>
    obtain ⟨⟨j, hj, hij, rfl⟩, rfl⟩ := hrel
    by_cases hji : j = i
    · subst hji
      have HPIN := HFREE.out
      have ha := HAT.out j (by have := HN.out; omega)
      have hpin := HPIN
      obtain ⟨x, hx⟩ : ∃ x, l[j]'(by have := HN.out; omega) = x := ⟨_, rfl⟩
      rw [hx] at ha hpin
      have hkg : x.key = gone := by rw [HG.out]; exact congrArg CItem.key hx.symm
      clear hx HPIN
      obtain ⟨key, val, pins⟩ := x
      unfold ItemAt at ha
      dsimp only at ha hpin hkg
      obtain ⟨a0, a1, a2⟩ := ha
      replace a0 := GQ.out.cell a0
      replace a2 := GQ.out.cell a2
      clear a1
      have hj0 : (0 : Int) ≤ (j : Int) := by omega
      have hj1 : (j : Int) < (n : Int) := by omega
      have hpd : decide (0 < pins) = false := decide_eq_false (by omega)
      have hwi : IntKind.i64.wrap ((j : Int) + 1) = (j : Int) + 1 := by rw [IntKind.wrap_i64]; omega
      have hneg : ¬ ((j : Int) < 0) := by omega
      go_wp2_with fail
      refine (HD.out _ GQ.out).mono ?_
      rintro e w5 ⟨v5, rfl, ho5, hm5, hv5⟩
      obtain ⟨A5, c5, hv5e⟩ := own_form ho5
      have HC4 := HC.out.grow GQ.out
      obtain ⟨hp5, hput5⟩ := HC4.put ho5 hm5
      rw [← HN.out] at hp5
      have q1 : w5.cell? ⟨p, 1, none⟩ = some (.slice (some ⟨g, 0, none⟩) n c) := by rw [heap_cell hp5]; rfl
      have f1 : w5.frozen? ⟨p, 1, none⟩ = false := heap_frozen hp5 1 (by omega)
      have hlt5 := heap_lt hp5
      have HB5 := hid (fun q hq => (ho5.lt q hq).2)
      have HV5 := hid hv5
      have HM5 := hid ((((Moved.of_grow GQ.out).trans (hm5 p) (fun _ e => .inl e)).setCell ⟨p, 1, none⟩ v5 (.inl rfl)).grow (Grow.alloc _ (.cells #[.string k, .int .i64 s, .int .i64 0] 79)))
      have HC6 := hid (hput5.grow (Grow.alloc _ (.cells #[.string k, .int .i64 s, .int .i64 0] 79)))
      have HX6 := hid (heap_newAt (g := w5.heap.size) (w5.setCell ⟨p, 1, none⟩ v5) (.cells #[.string k, .int .i64 s, .int .i64 0] 79) (by simp))
      have HS6 := hid (show w.heap.size ≤ ((w5.setCell ⟨p, 1, none⟩ v5).alloc (.cells #[.string k, .int .i64 s, .int .i64 0] 79)).heap.size from HM5.out.size)
      clear hp5 hput5 HC4 ho5 hm5 hv5 hq0 hq1 a0 a2
      subst hv5e
      have HEM := hid hkg
      clear hkg
      go_wp2_with fail
      refine (HIN.out _ _ HC6.out.2 (by have := heap_lt HC6.out.1; omega) _ HX6.out (fun q hq e => by have := HB5.out q hq; omega)).mono ?_
      rintro e w7 ⟨v7, rfl, ho7, hm7, hv7⟩
      obtain ⟨A7, c7, hv7e⟩ := own_form ho7
      obtain ⟨hp7, hput7⟩ := HC6.out.put ho7 hm7
      have q7 := (heap_cell hp7 1).trans (show _ = some _ from rfl)
      have f7 : w7.frozen? ⟨p, 1, none⟩ = false := heap_frozen hp7 1 (by omega)
      have hlt7 := heap_lt hp7
      have HPUT := hid hput7
      have HM := hid (HM5.out.trans (hm7 p) (fun q hq => by
        rcases HV5.out q hq with h | h
        · exact .inl h
        · exact .inr (Nat.le_trans GQ.out.size h)))
      have HV := hid (show ∀ q, v7.ownBlock = some q → (Value.slice (some ⟨g, 0, none⟩) n c).ownBlock = some q ∨ w.heap.size ≤ q from fun q hq => by
        rcases hv7 q hq with h | h
        · rcases HV5.out q h with h | h
          · exact .inl h
          · exact .inr (Nat.le_trans GQ.out.size h)
        · exact .inr (Nat.le_trans HS6.out h))
      clear hp7 hput7 ho7 hm7 hv7 HC6 HX6
      subst hv7e
      go_wp2_with fail
      go_ret3
      refine ⟨by rw [← HG.out, ← HEM.out]; rfl, _, HPUT.out, HM.out.setCell _ _ (.inl rfl), HV.out⟩
    · have HPIN := HLAST.out j (by have := HN.out; omega) (by omega)
      have ha := HAT.out j (by have := HN.out; omega)
      have hpin := HPIN
      obtain ⟨x, hx⟩ : ∃ x, l[j]'(by have := HN.out; omega) = x := ⟨_, rfl⟩
      rw [hx] at ha hpin
      clear hx HPIN
      obtain ⟨key, val, pins⟩ := x
      unfold ItemAt at ha
      dsimp only at ha hpin
      obtain ⟨a0, a1, a2⟩ := ha
      replace a0 := GQ.out.cell a0
      replace a2 := GQ.out.cell a2
      clear a1
      have hj0 : (0 : Int) ≤ (j : Int) := by omega
      have hj1 : (j : Int) < (n : Int) := by omega
      have hwj : IntKind.i64.wrap ((j : Int) - 1) = (j : Int) - 1 := by rw [IntKind.wrap_i64]; omega
      go_wp2_with fail
      go_roundw
      case rel => exact ⟨⟨j - 1, by omega, by omega, by congr 1; omega⟩, trivial⟩
      case measure => (simp [intOf]; try omega)
end Go.Proofs.Ytjccfodadiaokaa.Str
