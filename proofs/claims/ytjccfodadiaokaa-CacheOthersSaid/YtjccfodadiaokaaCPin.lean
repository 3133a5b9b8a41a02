/- What a cache's pins, and its dropping, do. -/
import Derived.Test.YtjccfodadiaokaaCPut
namespace Go.Proofs.Ytjccfodadiaokaa
open Go.RowKit
set_option linter.unusedVariables false
set_option linter.unusedSimpArgs false
theorem pinBy_eq (l : List CItem) (i : Nat) (d : Int) (hi : i < l.length) : pinBy l i d = l.set i { l[i] with pins := (l[i]).pins + d } := by
  unfold pinBy
  rw [List.getElem?_eq_getElem hi]
set_option maxRecDepth 100000 in
theorem PinOut_c (p : Nat) (most : Int) (v : Value) (l : List CItem) (k : Int) (w : World) (hc : CacheAt w p most v l) (hl : l.length ≤ 1000000) (hk : ∀ x ∈ l, x.key ≠ k) : Calls Try.prog 12 #[.pointer (some ⟨p, 0, none⟩), .int .i64 k] w fun e w' => e = .returned (.bool false) ∧ Grow w w' := by
  have HP := hid (place_c p most v l k (-1) w hc hl (.inr ⟨rfl, hk⟩))
  clear hc hk
  go_enter Try.func12, Try.ntmps12
  go_wp2_with fail
  refine HP.out.mono ?_
  rintro e w2 ⟨rfl, g2⟩
  go_wp2_with fail
  go_ret
  exact ⟨rfl, g2⟩
set_option maxRecDepth 100000 in
theorem PinNil_c (k : Int) (w : World) : Calls Try.prog 12 #[.pointer none, .int .i64 k] w fun e w' => e = .returned (.bool false) ∧ Grow w w' := by
  have HP := hid (placeNil_c k w)
  go_enter Try.func12, Try.ntmps12
  go_wp2_with fail
  refine HP.out.mono ?_
  rintro e w2 ⟨rfl, g2⟩
  go_wp2_with fail
  go_ret
  exact ⟨rfl, g2⟩
set_option maxRecDepth 100000 in
set_option maxHeartbeats 2000000 in
theorem PinIn_c (p : Nat) (most : Int) (v : Value) (l : List CItem) (k : Int) (i : Nat) (w : World) (hc : CacheAt w p most v l) (hl : l.length ≤ 1000000) (hi : i < l.length) (hk : (l[i]).key = k) (hf : ∀ j (h : j < l.length), j < i → (l[j]).key ≠ k) (h1 : -1000000000 ≤ (l[i]).pins) (h2 : (l[i]).pins ≤ 1000000000) :
    Calls Try.prog 12 #[.pointer (some ⟨p, 0, none⟩), .int .i64 k] w fun e w' => e = .returned (.bool true) ∧ CacheAt w' p most v (pinBy l i 1) ∧ Moved p v.ownBlock w w' := by
  have HP := hid (place_c p most v l k i w hc hl (.inl ⟨i, rfl, hi, fun _ => hk, hf⟩))
  have HC := hid hc
  clear hk hf
  obtain ⟨A, c, rfl, hlc, hcells⟩ := hc.form
  obtain ⟨g, rfl, hpg, hsz, hcm, hat⟩ := hcells (by omega)
  have ha := hat i hi
  have hp := hc.1
  have c1 : w.cell? ⟨p, 1, none⟩ = some (.slice (some ⟨g, 0, none⟩) l.length c) := by rw [heap_cell hp]; rfl
  obtain ⟨x, hx⟩ : ∃ x, l[i] = x := ⟨_, rfl⟩
  rw [hx] at ha h1 h2
  have hfz := hsz.free (i * 3 + 2)
  have hgl : g < w.heap.size := by obtain ⟨cur, h1, h2⟩ := hsz; exact heap_lt h1
  have hplt := heap_lt hp
  have HX := hid hx
  have HI := hid hi
  clear hc hcells hat hsz hcm hp
  obtain ⟨n, hN⟩ : ∃ n, n = l.length := ⟨_, rfl⟩
  rw [← hN] at c1 hl hlc
  have hi1 : (i : Int) < (n : Int) := by omega
  have hin : i < n := by omega
  have HN := hid hN
  clear hN hx
  obtain ⟨key, val, pins⟩ := x
  unfold ItemAt at ha
  dsimp only at *
  have hi0 : (0 : Int) ≤ (i : Int) := by omega
  have hi2 : ¬ ((i : Int) < 0) := by omega
  have hw : IntKind.i64.wrap (pins + 1) = pins + 1 := by rw [IntKind.wrap_i64]; omega
  go_enter Try.func12, Try.ntmps12
  go_wp2_with fail
  refine HP.out.mono ?_
  rintro e w2 ⟨rfl, g2⟩
  have d1 := g2.cell c1
  obtain ⟨a0, a1, a2⟩ := ha
  have b2 := g2.cell a2
  have z2 : w2.frozen? ⟨g, i * 3 + 2, none⟩ = false := (g2.marks g _ hgl).trans hfz
  have hne : g ≠ p := by omega
  have hgl2 : g < w2.heap.size := Nat.lt_of_lt_of_le hgl g2.size
  have hpl2 : p < w2.heap.size := Nat.lt_of_lt_of_le hplt g2.size
  clear a0 a1 a2 c1
  go_wp2_with fail
  go_ret
  refine ⟨rfl, ?_, ?_⟩
  · rw [pinBy_eq l i 1 HI.out, HX.out]
    have h := (HC.out.grow g2).set i 2 ⟨key, val, pins + 1⟩ (.int .i64 (pins + 1)) HI.out (by omega) (by rw [HX.out]; rfl)
    exact h
  · exact (Moved.of_grow g2).setCell _ _ (.inr (.inl rfl))
set_option maxRecDepth 100000 in
theorem UnpinOut_c (p : Nat) (most : Int) (v : Value) (l : List CItem) (k : Int) (w : World) (hc : CacheAt w p most v l) (hl : l.length ≤ 1000000) (hk : ∀ x ∈ l, x.key ≠ k) : Calls Try.prog 23 #[.pointer (some ⟨p, 0, none⟩), .int .i64 k] w fun e w' => e = .returned (.bool false) ∧ Grow w w' := by
  have HP := hid (place_c p most v l k (-1) w hc hl (.inr ⟨rfl, hk⟩))
  clear hc hk
  go_enter Try.func23, Try.ntmps23
  go_wp2_with fail
  refine HP.out.mono ?_
  rintro e w2 ⟨rfl, g2⟩
  go_wp2_with fail
  go_ret
  exact ⟨rfl, g2⟩
set_option maxRecDepth 100000 in
theorem UnpinNil_c (k : Int) (w : World) : Calls Try.prog 23 #[.pointer none, .int .i64 k] w fun e w' => e = .returned (.bool false) ∧ Grow w w' := by
  have HP := hid (placeNil_c k w)
  go_enter Try.func23, Try.ntmps23
  go_wp2_with fail
  refine HP.out.mono ?_
  rintro e w2 ⟨rfl, g2⟩
  go_wp2_with fail
  go_ret
  exact ⟨rfl, g2⟩
set_option maxRecDepth 100000 in
set_option maxHeartbeats 2000000 in
theorem UnpinIn_c (p : Nat) (most : Int) (v : Value) (l : List CItem) (k : Int) (i : Nat) (w : World) (hc : CacheAt w p most v l) (hl : l.length ≤ 1000000) (hi : i < l.length) (hk : (l[i]).key = k) (hf : ∀ j (h : j < l.length), j < i → (l[j]).key ≠ k) (h1 : 0 < (l[i]).pins) (h2 : (l[i]).pins ≤ 1000000000) :
    Calls Try.prog 23 #[.pointer (some ⟨p, 0, none⟩), .int .i64 k] w fun e w' => e = .returned (.bool true) ∧ CacheAt w' p most v (pinBy l i (-1)) ∧ Moved p v.ownBlock w w' := by
  have HP := hid (place_c p most v l k i w hc hl (.inl ⟨i, rfl, hi, fun _ => hk, hf⟩))
  have HC := hid hc
  clear hk hf
  obtain ⟨A, c, rfl, hlc, hcells⟩ := hc.form
  obtain ⟨g, rfl, hpg, hsz, hcm, hat⟩ := hcells (by omega)
  have ha := hat i hi
  have hp := hc.1
  have c1 : w.cell? ⟨p, 1, none⟩ = some (.slice (some ⟨g, 0, none⟩) l.length c) := by rw [heap_cell hp]; rfl
  obtain ⟨x, hx⟩ : ∃ x, l[i] = x := ⟨_, rfl⟩
  rw [hx] at ha h1 h2
  have hfz := hsz.free (i * 3 + 2)
  have hgl : g < w.heap.size := by obtain ⟨cur, h1, h2⟩ := hsz; exact heap_lt h1
  have hplt := heap_lt hp
  have HX := hid hx
  have HI := hid hi
  clear hc hcells hat hsz hcm hp
  obtain ⟨n, hN⟩ : ∃ n, n = l.length := ⟨_, rfl⟩
  rw [← hN] at c1 hl hlc
  have hi1 : (i : Int) < (n : Int) := by omega
  have hin : i < n := by omega
  have HN := hid hN
  clear hN hx
  obtain ⟨key, val, pins⟩ := x
  unfold ItemAt at ha
  dsimp only at *
  have hi0 : (0 : Int) ≤ (i : Int) := by omega
  have hi2 : ¬ ((i : Int) < 0) := by omega
  have hw : IntKind.i64.wrap (pins - 1) = pins - 1 := by rw [IntKind.wrap_i64]; omega
  have hz : (pins == 0) = false := by simp; omega
  go_enter Try.func23, Try.ntmps23
  go_wp2_with fail
  refine HP.out.mono ?_
  rintro e w2 ⟨rfl, g2⟩
  have d1 := g2.cell c1
  obtain ⟨a0, a1, a2⟩ := ha
  have b2 := g2.cell a2
  have z2 : w2.frozen? ⟨g, i * 3 + 2, none⟩ = false := (g2.marks g _ hgl).trans hfz
  have hne : g ≠ p := by omega
  have hgl2 : g < w2.heap.size := Nat.lt_of_lt_of_le hgl g2.size
  have hpl2 : p < w2.heap.size := Nat.lt_of_lt_of_le hplt g2.size
  clear a0 a1 a2 c1
  go_wp2_with fail
  go_ret
  refine ⟨rfl, ?_, ?_⟩
  · rw [pinBy_eq l i (-1) HI.out, HX.out]
    have h := (HC.out.grow g2).set i 2 ⟨key, val, pins + -1⟩ (.int .i64 (pins - 1)) HI.out (by omega) (by rw [HX.out]; rfl)
    exact h
  · exact (Moved.of_grow g2).setCell _ _ (.inr (.inl rfl))
set_option maxRecDepth 100000 in
set_option maxHeartbeats 2000000 in
theorem UnpinZero_c (p : Nat) (most : Int) (v : Value) (l : List CItem) (k : Int) (i : Nat) (w : World) (hc : CacheAt w p most v l) (hl : l.length ≤ 1000000) (hi : i < l.length) (hk : (l[i]).key = k) (hf : ∀ j (h : j < l.length), j < i → (l[j]).key ≠ k) (h1 : (l[i]).pins = 0) :
    Calls Try.prog 23 #[.pointer (some ⟨p, 0, none⟩), .int .i64 k] w fun e w' => e = .returned (.bool false) ∧ Grow w w' := by
  have HP := hid (place_c p most v l k i w hc hl (.inl ⟨i, rfl, hi, fun _ => hk, hf⟩))
  have HC := hid hc
  clear hk hf
  obtain ⟨A, c, rfl, hlc, hcells⟩ := hc.form
  obtain ⟨g, rfl, hpg, hsz, hcm, hat⟩ := hcells (by omega)
  have ha := hat i hi
  have hp := hc.1
  have c1 : w.cell? ⟨p, 1, none⟩ = some (.slice (some ⟨g, 0, none⟩) l.length c) := by rw [heap_cell hp]; rfl
  obtain ⟨x, hx⟩ : ∃ x, l[i] = x := ⟨_, rfl⟩
  rw [hx] at ha h1
  have hfz := hsz.free (i * 3 + 2)
  have hgl : g < w.heap.size := by obtain ⟨cur, h1, h2⟩ := hsz; exact heap_lt h1
  have hplt := heap_lt hp
  have HX := hid hx
  have HI := hid hi
  clear hc hcells hat hsz hcm hp
  obtain ⟨n, hN⟩ : ∃ n, n = l.length := ⟨_, rfl⟩
  rw [← hN] at c1 hl hlc
  have hi1 : (i : Int) < (n : Int) := by omega
  have hin : i < n := by omega
  have HN := hid hN
  clear hN hx
  obtain ⟨key, val, pins⟩ := x
  unfold ItemAt at ha
  dsimp only at *
  have hi0 : (0 : Int) ≤ (i : Int) := by omega
  have hi2 : ¬ ((i : Int) < 0) := by omega
  subst h1
  go_enter Try.func23, Try.ntmps23
  go_wp2_with fail
  refine HP.out.mono ?_
  rintro e w2 ⟨rfl, g2⟩
  have d1 := g2.cell c1
  obtain ⟨a0, a1, a2⟩ := ha
  have b2 := g2.cell a2
  have z2 : w2.frozen? ⟨g, i * 3 + 2, none⟩ = false := (g2.marks g _ hgl).trans hfz
  have hne : g ≠ p := by omega
  have hgl2 : g < w2.heap.size := Nat.lt_of_lt_of_le hgl g2.size
  have hpl2 : p < w2.heap.size := Nat.lt_of_lt_of_le hplt g2.size
  clear a0 a1 a2 c1
  go_wp2_with fail
  go_ret
  exact ⟨rfl, g2⟩
set_option maxRecDepth 100000 in
theorem DropOut_c (p : Nat) (most : Int) (v : Value) (l : List CItem) (k : Int) (w : World) (hc : CacheAt w p most v l) (hl : l.length ≤ 1000000) (hk : ∀ x ∈ l, x.key ≠ k) : Calls Try.prog 24 #[.pointer (some ⟨p, 0, none⟩), .int .i64 k] w fun e w' => e = .returned (.bool false) ∧ Grow w w' := by
  have HP := hid (place_c p most v l k (-1) w hc hl (.inr ⟨rfl, hk⟩))
  clear hc hk
  go_enter Try.func24, Try.ntmps24
  go_wp2_with fail
  refine HP.out.mono ?_
  rintro e w2 ⟨rfl, g2⟩
  go_wp2_with fail
  go_ret
  exact ⟨rfl, g2⟩
set_option maxRecDepth 100000 in
theorem DropNil_c (k : Int) (w : World) : Calls Try.prog 24 #[.pointer none, .int .i64 k] w fun e w' => e = .returned (.bool false) ∧ Grow w w' := by
  have HP := hid (placeNil_c k w)
  go_enter Try.func24, Try.ntmps24
  go_wp2_with fail
  refine HP.out.mono ?_
  rintro e w2 ⟨rfl, g2⟩
  go_wp2_with fail
  go_ret
  exact ⟨rfl, g2⟩
set_option maxRecDepth 100000 in
set_option maxHeartbeats 2000000 in
theorem DropIn_c (p : Nat) (most : Int) (v : Value) (l : List CItem) (k : Int) (i : Nat) (w : World) (hc : CacheAt w p most v l) (hl : l.length ≤ 1000000) (hi : i < l.length) (hk : (l[i]).key = k) (hf : ∀ j (h : j < l.length), j < i → (l[j]).key ≠ k) :
    Calls Try.prog 24 #[.pointer (some ⟨p, 0, none⟩), .int .i64 k] w fun e w' => e = .returned (.bool true) ∧ ∃ v', CacheAt w' p most v' (cutL i l) ∧ Moved p v.ownBlock w w' ∧ ∀ k, v'.ownBlock = some k → v.ownBlock = some k ∨ w.heap.size ≤ k := by
  have HD := hid (fun w' (g : Grow w w') => Delete_c l i v w' (p + 1) (hc.grow g).2 hi hl)
  have hbig : i ≤ 1000000 := by omega
  have HP := hid (place_c p most v l k i w hc hl (.inl ⟨i, rfl, hi, fun _ => hk, hf⟩))
  have HC := hid hc
  clear hk hf
  obtain ⟨A, c, rfl, hlc, hcells⟩ := hc.form
  obtain ⟨g, rfl, hpg, hsz, hcm, hat⟩ := hcells (by omega)
  have ha := hat i hi
  have hp := hc.1
  have c1 : w.cell? ⟨p, 1, none⟩ = some (.slice (some ⟨g, 0, none⟩) l.length c) := by rw [heap_cell hp]; rfl
  obtain ⟨x, hx⟩ : ∃ x, l[i] = x := ⟨_, rfl⟩
  rw [hx] at ha
  have hfz := hsz.free (i * 3 + 2)
  have hgl : g < w.heap.size := by obtain ⟨cur, h1, h2⟩ := hsz; exact heap_lt h1
  have hplt := heap_lt hp
  have HX := hid hx
  have HI := hid hi
  clear hc hcells hat hsz hcm hp
  obtain ⟨n, hN⟩ : ∃ n, n = l.length := ⟨_, rfl⟩
  rw [← hN] at c1 hl hlc
  have hi1 : (i : Int) < (n : Int) := by omega
  have hin : i < n := by omega
  have HN := hid hN
  clear hN hx
  obtain ⟨key, val, pins⟩ := x
  unfold ItemAt at ha
  dsimp only at *
  have hi0 : (0 : Int) ≤ (i : Int) := by omega
  have hi2 : ¬ ((i : Int) < 0) := by omega
  rw [← HN.out] at HD
  have hw : IntKind.i64.wrap ((i : Int) + 1) = (i : Int) + 1 := by rw [IntKind.wrap_i64]; omega
  go_enter Try.func24, Try.ntmps24
  go_wp2_with fail
  refine HP.out.mono ?_
  rintro e w2 ⟨rfl, g2⟩
  have d1 := g2.cell c1
  obtain ⟨a0, a1, a2⟩ := ha
  have b2 := g2.cell a2
  have z2 : w2.frozen? ⟨g, i * 3 + 2, none⟩ = false := (g2.marks g _ hgl).trans hfz
  have hne : g ≠ p := by omega
  have hgl2 : g < w2.heap.size := Nat.lt_of_lt_of_le hgl g2.size
  have hpl2 : p < w2.heap.size := Nat.lt_of_lt_of_le hplt g2.size
  clear a0 a1 a2 c1
  clear b2 z2
  go_wp2_with fail
  refine (HD.out _ g2).mono ?_
  rintro e w3 ⟨v', rfl, ho, hm, hv'⟩
  have HM := hid ((Moved.of_grow g2).trans (hm p) (fun _ e => .inl e))
  have hp3 : w3.heap[p]? = some (.cells #[.int .i64 most, .slice (some ⟨g, 0, none⟩) n c] 65 (0, 0)) := by
    rw [(hm (w2.heap.size)).block p hpl2 (by omega) (by intro h; have := Option.some.inj h; exact hne this.symm)]
    have hc2 := (HC.out.grow g2).1
    rw [← HN.out] at hc2
    exact hc2
  have HO := hid ho
  have HV := hid hv'
  have HS2 := hid g2.size
  clear ho hv' hm d1
  obtain ⟨A', c', rfl⟩ : ∃ A c, v' = .slice A (cutL i l).length c := by
    rcases HO.out.2 with ⟨h, h0⟩ | ⟨gg, cc, cur, h, _⟩
    · exact ⟨none, 0, by rw [h, h0]⟩
    · exact ⟨_, cc, h⟩
  have q0 : w3.cell? ⟨p, 0, none⟩ = some (.int .i64 most) := by rw [heap_cell hp3]; rfl
  have q1 : w3.cell? ⟨p, 1, none⟩ = some (.slice (some ⟨g, 0, none⟩) n c) := by rw [heap_cell hp3]; rfl
  have f1 : w3.frozen? ⟨p, 1, none⟩ = false := heap_frozen hp3 1 (by omega)
  have hlt3 := heap_lt hp3
  have HP3 := hid hp3
  clear hp3
  generalize hm : (cutL i l).length = m at *
  have HMM := hid hm
  clear hm
  go_wp2_with fail
  go_ret
  refine ⟨rfl, .slice A' m c', ⟨?_, ?_⟩, HM.out.setCell _ _ (.inl rfl), fun k hk => by
    rcases HV.out k hk with h | h
    · exact .inl h
    · exact .inr (Nat.le_trans HS2.out h)⟩
  · exact heap_set HP3.out 1 _
  · rw [HMM.out]
    have ho := HO.out
    refine ⟨ho.1, ?_⟩
    rcases ho.2 with h | ⟨gg, cc, cur, h, h2, hg, h4⟩
    · exact .inl h
    · exact .inr ⟨gg, cc, cur, h, h2, heap_keep hg _ _ (by show gg ≠ p; omega), h4⟩
end Go.Proofs.Ytjccfodadiaokaa
