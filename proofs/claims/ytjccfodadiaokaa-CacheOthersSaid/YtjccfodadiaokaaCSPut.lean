/- What a cache's calls do. -/
import Derived.Test.YtjccfodadiaokaaCSDelete
namespace Go.Proofs.Ytjccfodadiaokaa.Str
open Go.RowKit
set_option linter.unusedVariables false
set_option linter.unusedSimpArgs false
theorem set_cells {w : World} {g : Nat} {e : TypeId} {N : Nat} (l : List CItem) (i r : Nat) (x : CItem) (u : Value) (hi : i < l.length) (hr : r < 3) (hx : x.row = (l[i]).row.set r u) (hs : Sized w g e N) (hN : l.length * 3 ≤ N) (hc : ∀ j, j < l.length * 3 → w.cell? ⟨g, j, none⟩ = (itemCells l)[j]?) :
    ∀ j, j < (l.set i x).length * 3 → (w.setCell ⟨g, i * 3 + r, none⟩ u).cell? ⟨g, j, none⟩ = (itemCells (l.set i x))[j]? := by
  intro j hj
  rw [List.length_set] at hj
  obtain ⟨q, t, ht, rfl⟩ : ∃ q t, t < 3 ∧ j = q * 3 + t := ⟨j / 3, j % 3, by omega, by omega⟩
  have hq : q < l.length := by omega
  rw [itemCells_at _ q t (by rw [List.length_set]; exact hq) ht, List.getElem_set]
  have hold := hc (q * 3 + t) hj
  rw [itemCells_at _ q t hq ht] at hold
  by_cases he : i * 3 + r = q * 3 + t
  · have hiq : i = q := by omega
    have hrt : r = t := by omega
    subst hiq hrt
    rw [if_pos rfl, hx, List.getElem?_set]
    obtain ⟨z, hz⟩ := Option.isSome_iff_exists.1 (hs.isSome (i * 3 + r) (by omega))
    obtain ⟨cur, h1, h2⟩ := hs
    rw [heap_cell (heap_set h1 (i * 3 + r) u)]
    have hl3 : r < (l[i]).row.length := by rw [row_length]; exact hr
    simp [Array.getElem?_setIfInBounds, hl3]
    omega
  · rw [World.cell?_setCell_other _ _ _ _ (by intro h; injection h with _ h2 _; exact he h2), hold]
    by_cases hiq : i = q
    · subst hiq
      rw [if_pos rfl, hx, List.getElem?_set_ne (by omega)]
    · rw [if_neg hiq]
theorem CacheAt.set {w : World} {p : Nat} {most : Int} {l : List CItem} {g c : Nat} (h : CacheAt w p most (.slice (some ⟨g, 0, none⟩) l.length c) l) (i r : Nat) (x : CItem) (u : Value) (hi : i < l.length) (hr : r < 3) (hx : x.row = (l[i]).row.set r u) :
    CacheAt (w.setCell ⟨g, i * 3 + r, none⟩ u) p most (.slice (some ⟨g, 0, none⟩) l.length c) (l.set i x) := by
  obtain ⟨hsz, hnc, hcm, hbg, -⟩ := own_sized h.2
  refine ⟨heap_keep h.1 _ _ (by show p ≠ g; omega), ?_⟩
  rw [List.length_set]
  refine own_of_cells hbg (hsz.set g _ u) hnc hcm (by rw [itemCells_length, List.length_set]) ?_
  have := set_cells (e := 79) l i r x u hi hr hx hsz (by omega) (fun j hj => h.2.cellAt j hj)
  rwa [List.length_set] at this
theorem frontAll_c (p : Nat) (most : Int) (v : Value) (l : List CItem) (i : Nat) (w : World) (hc : CacheAt w p most v l) (hl : l.length ≤ 1000000) (hi : i < l.length) :
    Calls Try.prog 30 #[.pointer (some ⟨p, 0, none⟩), .int .i64 (i : Int)] w fun e w' => (∃ u, e = .returned u) ∧ CacheAt w' p most v (frontL i l) ∧ Moved p v.ownBlock w w' := by
  by_cases h0 : i = 0
  · subst h0
    exact front0_c p most v l w hc hl hi
  · exact front_c p most v l i w hc hl hi (by omega)
set_option maxRecDepth 100000 in
theorem Len_c (p : Nat) (most : Int) (v : Value) (l : List CItem) (w : World) (hc : CacheAt w p most v l) : Calls Try.prog 17 #[.pointer (some ⟨p, 0, none⟩)] w fun e w' => e = .returned (.int .i64 (l.length : Int)) ∧ w = w' := by
  obtain ⟨A, c, rfl, -, -⟩ := hc.form
  have hp := hc.1
  have c1 : w.cell? ⟨p, 1, none⟩ = some (.slice A l.length c) := by rw [heap_cell hp]; rfl
  have hplt := heap_lt hp
  clear hp hc
  go_enter Try.func17, Try.ntmps17
  go_wp2_with fail
  go_ret
  exact ⟨rfl, rfl⟩
set_option maxRecDepth 100000 in
theorem LenNil_c (w : World) : Calls Try.prog 17 #[.pointer none] w fun e w' => e = .returned (.int .i64 0) ∧ w = w' := by
  go_enter Try.func17, Try.ntmps17
  go_wp2_with fail
  go_ret
  exact ⟨rfl, rfl⟩
set_option maxRecDepth 100000 in
theorem GetOut_c (p : Nat) (most : Int) (v : Value) (l : List CItem) (k : ByteArray) (w : World) (hc : CacheAt w p most v l) (hl : l.length ≤ 1000000) (hk : ∀ x ∈ l, x.key ≠ k) :
    Calls Try.prog 18 #[.pointer (some ⟨p, 0, none⟩), .string k] w fun e w' => e = .returned (.tuple #[.int .i64 0, .bool false]) ∧ Grow w w' := by
  have HP := hid (place_c p most v l k (-1) w hc hl (.inr ⟨rfl, hk⟩))
  clear hc hk
  go_enter Try.func18, Try.ntmps18
  go_wp2_with fail
  refine HP.out.mono ?_
  rintro e w2 ⟨rfl, g2⟩
  go_wp2_with fail
  go_ret2
  exact ⟨rfl, g2⟩
set_option maxRecDepth 100000 in
theorem GetNil_c (k : ByteArray) (w : World) :
    Calls Try.prog 18 #[.pointer none, .string k] w fun e w' => e = .returned (.tuple #[.int .i64 0, .bool false]) ∧ Grow w w' := by
  have HP := hid (placeNil_c k w)
  go_enter Try.func18, Try.ntmps18
  go_wp2_with fail
  refine HP.out.mono ?_
  rintro e w2 ⟨rfl, g2⟩
  go_wp2_with fail
  go_ret2
  exact ⟨rfl, g2⟩
set_option maxRecDepth 100000 in
set_option maxHeartbeats 2000000 in
theorem GetIn_c (p : Nat) (most : Int) (v : Value) (l : List CItem) (k : ByteArray) (i : Nat) (w : World) (hc : CacheAt w p most v l) (hl : l.length ≤ 1000000) (hi : i < l.length) (hk : (l[i]).key = k) (hf : ∀ j (h : j < l.length), j < i → (l[j]).key ≠ k) :
    Calls Try.prog 18 #[.pointer (some ⟨p, 0, none⟩), .string k] w fun e w' => e = .returned (.tuple #[.int .i64 (l[i]).val, .bool true]) ∧ CacheAt w' p most v (frontL i l) ∧ Moved p v.ownBlock w w' := by
  have HP := hid (place_c p most v l k i w hc hl (.inl ⟨i, rfl, hi, fun _ => hk, hf⟩))
  have HF := hid (fun w' (g : Grow w w') => frontAll_c p most v l i w' (hc.grow g) hl hi)
  have HV := hid (show (frontL i l).length = l.length ∧ ∀ h : 0 < (frontL i l).length, (frontL i l)[0] = l[i] from ⟨frontL_length i l hi, fun h => by simp [frontL_eq i l hi]⟩)
  have h0n : 0 < l.length := by omega
  clear hc hk hf
  generalize l[i] = x at *
  obtain ⟨key, val, pins⟩ := x
  dsimp only
  have hi0 : (0 : Int) ≤ (i : Int) := by omega
  have hi1 : ¬ ((i : Int) < 0) := by omega
  go_enter Try.func18, Try.ntmps18
  go_wp2_with fail
  refine HP.out.mono ?_
  rintro e w2 ⟨rfl, g2⟩
  go_wp2_with fail
  refine (HF.out _ g2).mono ?_
  rintro e w3 ⟨⟨u, rfl⟩, hc3, hm3⟩
  obtain ⟨A, c, rfl, -, hcells⟩ := hc3.form
  obtain ⟨g, rfl, hpg, hsz, hcm, hat⟩ := hcells (by rw [HV.out.1]; exact h0n)
  have ha := hat 0 (by rw [HV.out.1]; exact h0n)
  rw [HV.out.2] at ha
  unfold ItemAt at ha
  dsimp only at ha
  obtain ⟨-, a1, -⟩ := ha
  have c1 : w3.cell? ⟨p, 1, none⟩ = some (.slice (some ⟨g, 0, none⟩) (frontL i l).length c) := by rw [heap_cell hc3.1]; rfl
  have hplt := heap_lt hc3.1
  have HC3 := hid hc3
  have HM := hid ((Moved.of_grow g2).trans hm3 (fun _ e => .inl e))
  clear hc3 hcells hat hsz hcm hm3
  have hnf : 0 < (frontL i l).length := by rw [HV.out.1]; exact h0n
  have hnf2 : (0 : Int) < ((frontL i l).length : Int) := by omega
  clear HV HF HP
  generalize hm : (frontL i l).length = m at *
  have HMM := hid hm
  clear hm
  go_wp2_with fail
  go_ret2
  exact ⟨rfl, by rw [HMM.out]; exact HC3.out, HM.out⟩
end Go.Proofs.Ytjccfodadiaokaa.Str
