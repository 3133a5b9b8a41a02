/- Where a key is among what is kept. -/
import Derived.Test.YtjccfodadiaokaaCMem
import Derived.Deep.QuietTactic
namespace Go.Proofs.Ytjccfodadiaokaa
open Go.RowKit
set_option linter.unusedVariables false
set_option linter.unusedSimpArgs false
/-- The row of what is kept, read. -/
def ItemAt (w : World) (g o : Nat) (x : CItem) : Prop := w.cell? ⟨g, o, none⟩ = some (.int .i64 x.key) ∧ w.cell? ⟨g, o + 1, none⟩ = some (.string x.val) ∧ w.cell? ⟨g, o + 2, none⟩ = some (.int .i64 x.pins)
/-- A cache, in the heap. -/
def CacheAt (w : World) (p : Nat) (most : Int) (v : Value) (l : List CItem) : Prop :=
  w.heap[p]? = some (.cells #[.int .i64 most, v] 65 (0, 0)) ∧ w.ownsRow (p + 1) 71 3 v l.length (itemCells l)
theorem CacheAt.grow {w w' : World} {p : Nat} {most : Int} {v : Value} {l : List CItem} (h : CacheAt w p most v l) (g : Grow w w') : CacheAt w' p most v l :=
  ⟨g.heap h.1, by
    refine ⟨h.2.1, ?_⟩
    rcases h.2.2 with h1 | ⟨gg, cap, cur, h1, h2, hg, h4⟩
    · exact .inl h1
    · exact .inr ⟨gg, cap, cur, h1, h2, g.heap hg, h4⟩⟩
theorem CacheAt.form {w : World} {p : Nat} {most : Int} {v : Value} {l : List CItem} (h : CacheAt w p most v l) : ∃ A c, v = .slice A l.length c ∧ l.length ≤ c ∧ (0 < l.length → ∃ g, A = some ⟨g, 0, none⟩ ∧ p < g ∧ Sized w g 71 (c * 3) ∧ c ≤ maxLen ∧ ∀ i (hi : i < l.length), ItemAt w g (i * 3) l[i]) := by
  have ho := h.2
  rcases h.2.2 with ⟨h1, h2⟩ | ⟨g, cap, cur, h1, h2, hg, h4, h5, h6, h7⟩
  · exact ⟨none, 0, by rw [h1, h2], by omega, fun h => by omega⟩
  · subst h1
    refine ⟨_, cap, rfl, h4, fun h0 => ⟨g, rfl, by omega, ⟨cur, hg, h6⟩, h5, fun i hi => ?_⟩⟩
    have c0 := ho.cellAt (i * 3) (by omega)
    have c1 := ho.cellAt (i * 3 + 1) (by omega)
    have c2 := ho.cellAt (i * 3 + 2) (by omega)
    have e0 := itemCells_at l i 0 hi (by omega)
    have e1 := itemCells_at l i 1 hi (by omega)
    have e2 := itemCells_at l i 2 hi (by omega)
    rw [Nat.add_zero] at e0
    exact ⟨c0.trans e0, c1.trans e1, c2.trans e2⟩
/-- The place of a key; -1: it isn't kept. -/
def IsPlace (k : Int) (l : List CItem) (r : Int) : Prop := (∃ i : Nat, r = (i : Int) ∧ i < l.length ∧ (∀ h : i < l.length, (l[i]).key = k) ∧ ∀ j (h : j < l.length), j < i → (l[j]).key ≠ k) ∨ (r = -1 ∧ ∀ x ∈ l, x.key ≠ k)
set_option maxRecDepth 100000 in
set_option maxHeartbeats 1000000 in
theorem place1_c (x : CItem) (k : Int) (kb : Nat) (w : World) (hk : w.cell? ⟨kb, 0, none⟩ = some (.int .i64 k)) :
    Calls Try.prog 41 #[.agg #[.int .i64 x.key, .string x.val, .int .i64 x.pins], .pointer (some ⟨kb, 0, none⟩)] w fun e w' => e = .returned (.bool (x.key == k)) ∧ Grow w w' := by
  obtain ⟨key, val, pins⟩ := x
  dsimp only
  have hlt := World.block_lt_of_cell? w _ hk
  simp only at hlt
  go_enter Try.func41, Try.ntmps41
  go_wp2_with fail
  go_ret
  exact ⟨rfl, Grow.alloc _ _⟩
set_option maxRecDepth 100000 in
set_option maxHeartbeats 4000000 in
theorem IndexFunc_c (p : Nat) (most : Int) (v : Value) (l : List CItem) (k : Int) (kb : Nat) (r : Int) (w : World) (hc : CacheAt w p most v l) (hl : l.length ≤ 1000000) (hk : w.cell? ⟨kb, 0, none⟩ = some (.int .i64 k)) (hr : IsPlace k l r) :
    Calls Try.prog 40 #[v, .func (.func 41) #[] #[.pointer (some ⟨kb, 0, none⟩)]] w fun e w' => e = .returned (.int .i64 r) ∧ Grow w w' := by
  obtain ⟨A, c, rfl, -, hcells⟩ := hc.form
  have HC := hid (show ∀ i (hi : i < l.length), ∃ g, A = some ⟨g, 0, none⟩ ∧ ItemAt w g (i * 3) l[i] from fun i hi => by
    obtain ⟨g, hg, -, -, -, h⟩ := hcells (by omega)
    exact ⟨g, hg, h i hi⟩)
  have HP := hid (fun (x : CItem) (w' : World) (g : Grow w w') => place1_c x k kb w' (g.cell hk))
  have HR := hid hr
  clear hc hcells hk hr
  obtain ⟨n, hN⟩ : ∃ n, n = l.length := ⟨_, rfl⟩
  rw [← hN]
  rw [← hN] at hl
  have HN := hid hN
  clear hN
  go_enter Try.func40, Try.ntmps40
  go_wp2_with fail
  go_loopw [8] (fun i wr => ∃ j : Nat, j ≤ n ∧ i = .int .i64 (j : Int) ∧ Hid (∀ q (h : q < l.length), q < j → (l[q]).key ≠ k) ∧ Grow w wr) (fun i _ => n - (intOf i).toNat)
  case atStart => exact ⟨0, by omega, rfl, hid (fun q h hq => by omega), Grow.refl _⟩
  case round =>
    obtain ⟨j, hj, rfl, HK, hg⟩ := hrel
    by_cases hlt : j < n
    · obtain ⟨g, rfl, ha⟩ := HC.out j (by have := HN.out; omega)
      obtain ⟨x, hx⟩ : ∃ x, l[j]'(by have := HN.out; omega) = x := ⟨_, rfl⟩
      rw [hx] at ha
      have hp := HP.out x
      have HKEY := hid (show ∀ h : j < l.length, l[j] = x from fun h => hx)
      clear hx
      obtain ⟨key, val, pins⟩ := x
      unfold ItemAt at ha
      dsimp only at ha hp
      obtain ⟨c0, c1, c2⟩ := ha
      replace c0 := hg.cell c0
      replace c1 := hg.cell c1
      replace c2 := hg.cell c2
      have HP2 := hid hp
      clear hp
      have hk0 : (0 : Int) ≤ (j : Int) := by omega
      have hk1 : (j : Int) < (n : Int) := by omega
      by_cases hxk : key = k
      · have hd : (key == k) = true := by simpa using hxk
        have hr : r = (j : Int) := by
          rcases HR.out with ⟨i, rfl, hi, hi1, hi2⟩ | ⟨-, h⟩
          · have hij : i = j := by
              rcases Nat.lt_trichotomy i j with h | h | h
              · exact absurd (hi1 hi) (HK.out i hi h)
              · exact h
              · exact absurd ((congrArg CItem.key (HKEY.out (by have := HN.out; omega))).trans hxk) (hi2 j (by have := HN.out; omega) h)
            rw [hij]
          · exact absurd ((congrArg CItem.key (HKEY.out (by have := HN.out; omega))).trans hxk) (h _ (List.getElem_mem _))
        have HRR := hid hr
        clear hr hxk
        go_wp2_with fail
        refine (HP2.out _ hg).mono ?_
        rintro e w2 ⟨rfl, g2⟩
        rw [hd]
        go_wp2_with fail
        go_ret
        exact ⟨by rw [HRR.out]; rfl, Grow.trans hg g2⟩
      · have hd : (key == k) = false := by simpa using hxk
        have HNX : Hid (∀ q (h : q < l.length), q < j + 1 → (l[q]).key ≠ k) := fun q h hq => by
          by_cases e : q = j
          · subst e
            rw [HKEY.out h]; exact hxk
          · exact HK.out q h (by omega)
        clear hxk
        go_wp2_with fail
        refine (HP2.out _ hg).mono ?_
        rintro e w2 ⟨rfl, g2⟩
        rw [hd]
        go_wp2_with fail
        go_roundw
        case rel => exact ⟨j + 1, by omega, by go_num, HNX, Grow.trans hg g2⟩
        case measure => simp [intOf]; omega
    · obtain rfl : j = n := by omega
      have hr : r = -1 := by
        rcases HR.out with ⟨i, rfl, hi, hi1, hi2⟩ | ⟨h, -⟩
        · exact absurd (hi1 hi) (HK.out i hi (by have := HN.out; omega))
        · exact h
      have HRR := hid hr
      clear hr
      go_wp2_with fail
      go_ret
      exact ⟨by rw [HRR.out]; rfl, hg⟩
set_option maxRecDepth 100000 in
set_option maxHeartbeats 1000000 in
theorem place_c (p : Nat) (most : Int) (v : Value) (l : List CItem) (k : Int) (r : Int) (w : World) (hc : CacheAt w p most v l) (hl : l.length ≤ 1000000) (hr : IsPlace k l r) :
    Calls Try.prog 25 #[.pointer (some ⟨p, 0, none⟩), .int .i64 k] w fun e w' => e = .returned (.int .i64 r) ∧ Grow w w' := by
  have HI := hid (fun w' (g : Grow w w') kb hk => IndexFunc_c p most v l k kb r w' (hc.grow g) hl hk hr)
  have hp := hc.1
  have hv := hc.form
  obtain ⟨A, c, rfl, -, -⟩ := hv
  have c1 : w.cell? ⟨p, 1, none⟩ = some (.slice A l.length c) := by rw [heap_cell hp]; rfl
  have hplt := heap_lt hp
  clear hp hc hr
  go_enter Try.func25, Try.ntmps25
  go_wp2_with fail
  refine (HI.out _ (Grow.alloc _ _) _ ?_).mono ?_
  · rw [heap_cell (heap_new w _)]; rfl
  rintro e w2 ⟨rfl, g2⟩
  go_wp2_with fail
  go_ret
  exact ⟨rfl, Grow.trans (Grow.alloc _ _) g2⟩
set_option maxRecDepth 100000 in
theorem placeNil_c (k : Int) (w : World) : Calls Try.prog 25 #[.pointer none, .int .i64 k] w fun e w' => e = .returned (.int .i64 (-1)) ∧ Grow w w' := by
  go_enter Try.func25, Try.ntmps25
  go_wp2_with fail
  go_ret
  exact ⟨rfl, Grow.alloc _ _⟩
end Go.Proofs.Ytjccfodadiaokaa
