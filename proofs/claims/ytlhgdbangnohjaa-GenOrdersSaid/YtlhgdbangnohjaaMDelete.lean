/- What slices.Delete leaves of numbers, one of which is taken out. -/
import Derived.Test.YtlhgdbangnohjaaMInsert
import Derived.Lib.SliceRun
namespace Go.Proofs.Ytlhgdbangnohjaa
open Go.RowKit
set_option linter.unusedVariables false
set_option linter.unusedSimpArgs false
theorem zeroIntV (w : World) : (zeroValue 3).run Try.prog w = .ok (.int .i64 0) w := by
  obtain ⟨i0, hi, hz, -, -⟩ := info_parts infoIntM
  have h := run_typeInfo w hi
  simp only [zeroValue, Sem.run_bind, h, Result.andThen_ok, hz, Sem.run_pure]
/-- Cells of a row out of which a number was taken. -/
theorem Ints.cut {w' : World} {g i cap : Nat} {xs : List Int} (hi : i < xs.length) (hn : xs.length ≤ 20000000000000) (hcap : xs.length ≤ cap)
    (h0 : ∀ k, k < i → w'.cell? ⟨g, k, none⟩ = some (.int .i64 (xs.getD k 0)))
    (h2 : ∀ k, i < k → k < xs.length → w'.cell? ⟨g, k - 1, none⟩ = some (.int .i64 (xs.getD k 0))) : Ints w' (.slice (some ⟨g, 0, none⟩) (i + (xs.length - (i + 1))) cap) (xs.take i ++ xs.drop (i + 1)) := by
  have hl : (xs.take i ++ xs.drop (i + 1)).length = i + (xs.length - (i + 1)) := by simp; omega
  have ht : (xs.take i).length = i := by rw [List.length_take]; omega
  refine ⟨some ⟨g, 0, none⟩, cap, by rw [hl], by rw [hl]; omega, fun _ => ⟨g, 0, rfl, fun k hk => ?_⟩, by rw [hl]; omega⟩
  rw [hl] at hk
  rw [List.getD_eq_getElem?_getD, List.getElem?_append, ht, Nat.zero_add]
  by_cases hlt : k < i
  · rw [if_pos hlt, List.getElem?_take, if_pos hlt, ← List.getD_eq_getElem?_getD]; exact h0 k hlt
  · rw [if_neg hlt, List.getElem?_drop, ← List.getD_eq_getElem?_getD, show i + 1 + (k - i) = k + 1 by omega]
    exact h2 (k + 1) (by omega) (by omega)
set_option maxRecDepth 100000 in
set_option maxHeartbeats 4000000 in
theorem DeleteAt_c (xs : List Int) (i : Nat) (g cap : Nat) (cur : Array Value) (w : World) (hi : i < xs.length) (hnc : xs.length ≤ cap) (hcm : cap ≤ maxLen)
    (hg : w.heap[g]? = some (.cells cur 3 (0, 0))) (hcs : cur.size = cap) (htake : cur.toList.take xs.length = i64s xs) :
    Calls Try.prog 61 #[.slice (some ⟨g, 0, none⟩) xs.length cap, .int .i64 (i : Int), .int .i64 ((i : Int) + 1)] w fun e w' =>
      e = .returned (.slice (some ⟨g, 0, none⟩) (i + (xs.length - (i + 1))) cap) ∧ w' = (w.drew.setCells g (0 + i * 1) (i64s (xs.drop (i + 1)))).setCells g (i + (xs.length - (i + 1))) (List.replicate (xs.length - (i + (xs.length - (i + 1)))) (.int .i64 0)) := by
  have u22 := Try.underlying23
  obtain ⟨i0, hi0, hz0, hzs, hzb⟩ := info_parts infoIntM
  unfold maxLen at hcm
  have hfz : ∀ k, w.frozen? ⟨g, k, none⟩ = false := fun k => by unfold World.frozen?; simp [hg]
  have hsp : ∀ k, k < cap → (w.cell? ⟨g, k, none⟩).isSome = true := fun k hk => by rw [heap_cell hg, Array.getElem?_eq_getElem (by omega)]; rfl
  have hget : ∀ j v, (i64s xs)[j]? = some v → w.cell? ⟨g, j, none⟩ = some v := fun j v hj => by
    rw [heap_cell hg, ← Array.getElem?_toList]
    rw [← htake, List.getElem?_take] at hj
    split at hj
    · exact hj
    · cases hj
  obtain ⟨news, hnews⟩ : ∃ news, news = i64s (xs.drop (i + 1)) := ⟨_, rfl⟩
  have hlen : news.length = xs.length - (i + 1) := by rw [hnews, i64s_length, List.length_drop]
  have s1 : Hid (news.length = (xs.length - (i + 1)) * 1) := by rw [Nat.mul_one]; exact hlen
  have s2 : Hid (∀ u ∈ news, u.oneCell' = true) := by
    intro u hu
    rw [hnews] at hu
    obtain ⟨y, _, rfl⟩ := List.mem_map.1 hu
    rfl
  have s3 : Hid (∀ t, t < news.length → (w.drew.cell? ⟨g, 0 + i * 1 + t, none⟩).isSome = true ∧ w.drew.frozen? ⟨g, 0 + i * 1 + t, none⟩ = false) := by
    intro t ht
    rw [hlen] at ht
    exact ⟨hsp _ (by omega), hfz _⟩
  have hsrc : Hid (∀ (A : Addr), (cap ≠ i + 1 → A = ⟨g, i + 1, none⟩) → ∀ t u, news[t]? = some u → w.drew.cell? (A.add t) = some u) := by
    intro A hA t u hu
    have ht : t < xs.length - (i + 1) := by
      have := (List.getElem?_eq_some_iff.1 hu).1
      rwa [hlen] at this
    rw [hA (by omega), Addr.add_lit]
    refine hget (i + 1 + t) u ?_
    rw [hnews] at hu
    unfold i64s at hu ⊢
    rwa [List.getElem?_map, List.getElem?_drop, ← List.getElem?_map] at hu
  obtain ⟨W1, hW1⟩ : ∃ W1, W1 = w.drew.setCells g (0 + i * 1) news := ⟨_, rfl⟩
  have hsp1 : ∀ k, k < cap → (W1.cell? ⟨g, k, none⟩).isSome = true := fun k hk => by
    rw [hW1]
    exact isSome_setCells g _ _ _ (fun j hj => by rw [hlen] at hj; exact hsp _ (by omega)) _ (hsp k hk)
  have hcl : ∀ ty c, (Builtin.clear_ #[23] ty #[.slice (some ⟨g, i + (xs.length - (i + 1)), none⟩) (xs.length - (i + (xs.length - (i + 1)))) c]).run Try.prog W1 = .ok (.tuple #[]) (W1.setCells g (i + (xs.length - (i + 1))) (List.replicate (xs.length - (i + (xs.length - (i + 1)))) (.int .i64 0))) :=
    fun ty c => Lib.run_clear_slice W1 _ _ ty _ u22 zeroIntV rfl rfl g (i + (xs.length - (i + 1))) _ _ (by omega) (fun t ht => hsp1 _ (by omega)) (fun t ht => by rw [hW1, World.frozen?_setCells]; exact hfz _)
  have hW : Hid (W1 = w.drew.setCells g (0 + i * 1) news) := hW1
  have hic : i ≤ cap := by omega
  have hjc : i + 1 ≤ cap := by omega
  have hb1 : (0 : Int) ≤ (i : Int) + 1 := by omega
  have hb2 : ((i : Int) == (i : Int) + 1) = false := by simp; omega
  have hb3 : (i : Int) ≤ (i : Int) + 1 := by omega
  have hb4 : (i : Int) + 1 ≤ (xs.length : Int) := by omega
  have hb5 : (xs.length : Int) ≤ (cap : Int) := by omega
  have htn : ((i : Int) + 1).toNat = i + 1 := by omega
  have hb6 : ¬ ((i : Int) = (i : Int) + 1) := by omega
  have mixed : Try.prog.follows .mixedOrders = true := by kernel_rfl
  have HN := hid hnews
  clear hW1 hsp1 hget hsp hfz hcs htake hg hnews hlen
  generalize hN : xs.length = n at *
  by_cases hc1 : cap = i + 1
  · obtain rfl : n = i + 1 := by omega
    subst hc1
    have hb7 : ¬ (i + 1 = i) := by omega
    have e1 : i + (i + 1 - (i + 1)) = i := by omega
    have e2 : i + 1 - i = 1 := by omega
    have e3 : (i + 1 - (i + 1)) * 1 = 0 := by omega
    rw [e1, e2] at hcl ⊢
    rw [e3] at s1
    go_enter Try.func61, Try.ntmps61
    go_wp2_with fail
    go_region_law_o (refine step_append_room rfl (.tmp 22) (.tmp 25) 23 rfl 3 i0 1 u22 hi0 hzs g 0 i (i + 1) (by simp [Act.eval, Act.put]) ⟨g, 0, none⟩ 0 0 news (by simp [Act.eval, Act.put]) s1.out (hsrc.out _ (by omega)) s2.out (by omega) s3.out ?_; rw [← hW.out])
    go_wp2
    go_ret
    exact ⟨rfl, by rw [hW.out, HN.out]; rfl⟩
  · have hb7 : ¬ (cap = i) := by omega
    go_enter Try.func61, Try.ntmps61
    go_wp2_with fail
    go_region_law_o (refine step_append_room rfl (.tmp 22) (.tmp 25) 23 rfl 3 i0 1 u22 hi0 hzs g 0 i cap (by simp [Act.eval, Act.put]) ⟨g, i + 1, none⟩ (n - (i + 1)) (cap - (i + 1)) news (by simp [Act.eval, Act.put]) s1.out (hsrc.out _ (fun _ => rfl)) s2.out (by omega) s3.out ?_; rw [← hW.out])
    go_wp2
    go_ret
    exact ⟨rfl, by rw [hW.out, HN.out]⟩
theorem Delete_c (xs : List Int) (i : Nat) (v : Value) (w : World) (base : Nat) (hi : i < xs.length) (hn : xs.length ≤ 20000000000000) (hv : w.ownsRow base 3 1 v xs.length (i64s xs)) :
    Calls Try.prog 61 #[v, .int .i64 (i : Int), .int .i64 ((i : Int) + 1)] w fun e w' => ∃ v', e = .returned v' ∧ IntsF base w' v' (xs.take i ++ xs.drop (i + 1)) ∧ Below base w w' := by
  rcases hv.2 with ⟨rfl, hz⟩ | ⟨g, cap, cur, rfl, hbg, hg, hnc, hcm, hcs, htake⟩
  · omega
  · rw [Nat.mul_one] at hcs htake
    refine (DeleteAt_c xs i g cap cur w hi hnc hcm hg hcs htake).mono ?_
    rintro e w' ⟨rfl, rfl⟩
    have hget : ∀ j, j < xs.length → w.cell? ⟨g, j, none⟩ = some (.int .i64 (xs.getD j 0)) := fun j hj => by
      have := hv.cellAt j (by omega)
      rw [i64s_at hj] at this
      exact this
    have hDl : (i64s (xs.drop (i + 1))).length = xs.length - (i + 1) := by rw [i64s_length, List.length_drop]
    have hsp : ∀ k, k < cap → (w.cell? ⟨g, k, none⟩).isSome = true := fun k hk => by rw [heap_cell hg, Array.getElem?_eq_getElem (by omega)]; rfl
    rw [show 0 + i * 1 = i by omega]
    refine ⟨_, rfl, ⟨Ints.cut hi hn (by omega) ?_ ?_, Lies.at hbg⟩, Below.setCellsM hbg _ _ _ (Below.setCellsM hbg _ _ _ (Below.refl _ _).drew)⟩
    · intro k hk
      rw [World.cell?_setCells_out g _ _ _ _ (fun _ _ => .inl (by show k < i + (xs.length - (i + 1)); omega)), World.cell?_setCells_out g _ _ _ _ (fun _ _ => .inl hk)]
      exact hget k (by omega)
    · intro k h1 h2
      rw [World.cell?_setCells_out g _ _ _ _ (fun _ _ => .inl (by show k - 1 < i + (xs.length - (i + 1)); omega))]
      have := World.cell?_setCells_in g (i64s (xs.drop (i + 1))) i w.drew (fun j hj => by rw [hDl] at hj; exact hsp _ (by omega)) (k - (i + 1)) (by rw [hDl]; omega)
      rw [show i + (k - (i + 1)) = k - 1 by omega] at this
      rw [this, ← List.getElem?_eq_getElem, i64s_drop_at (by omega), show i + 1 + (k - (i + 1)) = k by omega]
end Go.Proofs.Ytlhgdbangnohjaa
