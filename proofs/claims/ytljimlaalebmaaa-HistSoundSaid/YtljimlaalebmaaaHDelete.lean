/- What slices.Delete leaves of a list of operations. -/
import Derived.Test.YtljimlaalebmaaaHMem
import Derived.Lib.SlicesDelete
import Derived.Shelf.RegionOpen
import Derived.Shelf.Spec.SlicesInsertGrow
import Derived.Deep.QuietTactic
namespace Go.Proofs.Ytljimlaalebmaaa
open Go.RowKit
set_option linter.unusedVariables false
set_option linter.unusedSimpArgs false
theorem run_clear_one {P : Program} (w : World) (t e ty : TypeId) (z : Value) (Z : List Value) (ht : P.underlying t = some (.slice e)) (hv : ∀ w, (zeroValue e).run P w = .ok z w) (hz : (Builtin.zeroCells z.cells 1).toList = Z) (h1 : ∀ v ∈ Z, v.oneCell' = true) (b o c : Nat)
    (hc : ∀ j, j < Z.length → (w.cell? ⟨b, o + j, none⟩).isSome = true) (hf : ∀ j, j < Z.length → w.frozen? ⟨b, o + j, none⟩ = false) :
    (Builtin.clear_ #[t] ty #[.slice (some ⟨b, o, none⟩) 1 c]).run P w = .ok (.tuple #[]) (w.setCells b o Z) := by
  have hst := run_storeCells_cells (P := P) b o Z 0 w (by simpa using hc) (by simpa using hf) h1
  simp only [Nat.add_zero] at hst
  simp [Builtin.clear_, run_underlying ht, hv, hz, hst]
theorem cutL_length (i : Nat) (l : List OpR) (hi : i < l.length) : (cutL i l).length = l.length - 1 := by
  unfold cutL
  rw [List.length_append, List.length_take, List.length_drop]
  omega
def zeroOp : List Value := [.int .i64 0, .int .i64 0, .int .i64 0, .int .i64 0, .int .i64 0, .int .i64 0, .int .i64 0, .bool false, .int .i64 0, .int .i64 0, .int .i64 0]
/-- The cells behind the taking out. -/
theorem cut_cells {w : World} {g : Nat} {e : TypeId} {N : Nat} (l : List OpR) (i : Nat) (hi : i < l.length) (hs : Sized w g e N) (hN : l.length * 11 ≤ N) (hc : ∀ j, j < l.length * 11 → w.cell? ⟨g, j, none⟩ = (opCells l)[j]?) :
    ∀ j, j < (l.length - 1) * 11 → ((w.setCells g (i * 11) (opCells (l.drop (i + 1)))).setCells g ((l.length - 1) * 11) zeroOp).cell? ⟨g, j, none⟩ = (opCells (cutL i l))[j]? := by
  intro j hj
  have hA : (opCells (l.take i)).length = i * 11 := by rw [opCells_length, List.length_take]; rw [Nat.min_eq_left (by omega)]
  have hD : (opCells (l.drop (i + 1))).length = (l.length - (i + 1)) * 11 := by rw [opCells_length, List.length_drop]
  have e1 : opCells (cutL i l) = opCells (l.take i) ++ opCells (l.drop (i + 1)) := by unfold cutL; rw [opCells_append]
  have e0 : opCells l = opCells (l.take i) ++ ((l[i]).row ++ opCells (l.drop (i + 1))) := by
    conv => lhs; rw [split_at i l hi]
    rw [opCells_append, opCells_append, cells_one]
  rw [World.cell?_setCells_out g _ _ _ _ (fun _ _ => .inl (by show j < (l.length - 1) * 11; exact hj))]
  by_cases hlt : j < i * 11
  · rw [World.cell?_setCells_out g _ _ _ _ (fun _ _ => .inl (by show j < i * 11; exact hlt)), hc j (by omega), e1, e0, List.getElem?_append_left (by rw [hA]; exact hlt), List.getElem?_append_left (by rw [hA]; exact hlt)]
  · have := World.cell?_setCells_in g (opCells (l.drop (i + 1))) (i * 11) w (fun q hq => hs.isSome _ (by rw [hD] at hq; omega)) (j - i * 11) (by rw [hD]; omega)
    rw [show i * 11 + (j - i * 11) = j by omega] at this
    rw [this, ← List.getElem?_eq_getElem, e1, List.getElem?_append_right (by rw [hA]; omega), hA]
theorem zeroOpV (w : World) : (zeroValue 25).run Try.prog w = .ok (.agg #[.int .i64 0, .int .i64 0, .int .i64 0, .int .i64 0, .int .i64 0, .int .i64 0, .int .i64 0, .bool false, .int .i64 0, .int .i64 0, .int .i64 0]) w := by
  obtain ⟨i0, hi, hz, -, -⟩ := info_parts infoOpM
  have h := run_typeInfo w hi
  simp only [zeroValue, Sem.run_bind, h, Result.andThen_ok, hz, Sem.run_pure]
set_option maxRecDepth 100000 in
set_option maxHeartbeats 4000000 in
theorem DeleteAt_c (l : List OpR) (i g c : Nat) (w : World) (base : Nat) (hv : w.ownsRow base 25 11 (.slice (some ⟨g, 0, none⟩) l.length c) l.length (opCells l)) (hi : i < l.length) (hl : l.length ≤ 1000000) :
    Calls Try.prog 16 #[.slice (some ⟨g, 0, none⟩) l.length c, .int .i64 (i : Int), .int .i64 ((i : Int) + 1)] w fun e w' =>
      e = .returned (.slice (some ⟨g, 0, none⟩) (i + (l.length - (i + 1))) c) ∧ w' = (w.drew.setCells g (0 + i * 11) (opCells (l.drop (i + 1)))).setCells g ((i + (l.length - (i + 1))) * 11) zeroOp := by
  have u63 := Try.underlying23
  obtain ⟨i0, hi0, hz0, hzs, hzb⟩ := info_parts infoOpM
  obtain ⟨hsz, hnc, hcm, hbg, -⟩ := own_sized hv
  unfold maxLen at hcm
  have hcells : ∀ j, j < l.length * 11 → w.cell? ⟨g, j, none⟩ = (opCells l)[j]? := fun j hj => hv.cellAt j hj
  have e0 : opCells l = opCells (l.take i) ++ ((l[i]).row ++ opCells (l.drop (i + 1))) := by
    conv => lhs; rw [split_at i l hi]
    rw [opCells_append, opCells_append, cells_one]
  have hA : (opCells (l.take i)).length = i * 11 := by rw [opCells_length, List.length_take]; rw [Nat.min_eq_left (by omega)]
  obtain ⟨news, hnews⟩ : ∃ news, news = opCells (l.drop (i + 1)) := ⟨_, rfl⟩
  have hlen : news.length = (l.length - (i + 1)) * 11 := by rw [hnews, opCells_length, List.length_drop]
  have s1 : Hid (news.length = (l.length - (i + 1)) * 11) := hlen
  have s2 : Hid (∀ u ∈ news, u.oneCell' = true) := by rw [hnews]; exact opCells_one _
  have s3 : Hid (∀ t, t < news.length → (w.drew.cell? ⟨g, 0 + i * 11 + t, none⟩).isSome = true ∧ w.drew.frozen? ⟨g, 0 + i * 11 + t, none⟩ = false) := by
    intro t ht
    rw [hlen] at ht
    exact ⟨hsz.isSome _ (by omega), hsz.free _⟩
  have hsrc : Hid (∀ (A : Addr), (c ≠ i + 1 → A = ⟨g, (i + 1) * 11, none⟩) → ∀ t u, news[t]? = some u → w.drew.cell? (A.add t) = some u) := by
    intro A hAA t u hu
    have ht : t < (l.length - (i + 1)) * 11 := by
      have := (List.getElem?_eq_some_iff.1 hu).1
      rwa [hlen] at this
    rw [hAA (by omega), Addr.add_lit]
    refine (hcells ((i + 1) * 11 + t) (by omega)).trans ?_
    rw [e0, List.getElem?_append_right (by rw [hA]; omega), List.getElem?_append_right (by rw [hA, row_length]; omega), hA, row_length, ← hu, hnews]
    congr 1
    omega
  obtain ⟨W1, hW1⟩ : ∃ W1, W1 = w.drew.setCells g (0 + i * 11) news := ⟨_, rfl⟩
  have hs1 : Sized W1 g 25 (c * 11) := by rw [hW1]; exact Sized.sets g _ _ _ (hsz.grow (Grow.drew _))
  have hcl : ∀ ty cc, (Builtin.clear_ #[23] ty #[.slice (some ⟨g, (i + (l.length - (i + 1))) * 11, none⟩) 1 cc]).run Try.prog W1 = .ok (.tuple #[]) (W1.setCells g ((i + (l.length - (i + 1))) * 11) zeroOp) :=
    fun ty cc => run_clear_one W1 _ _ ty _ zeroOp u63 zeroOpV (by kernel_rfl) (by intro v hv; simp only [zeroOp, List.mem_cons, List.not_mem_nil, or_false] at hv; rcases hv with rfl | rfl | rfl | rfl | rfl | rfl | rfl | rfl | rfl | rfl | rfl <;> rfl) g _ cc (fun t ht => hs1.isSome _ (by have : t < 11 := ht; omega)) (fun t ht => hs1.free _)
  have hW : Hid (W1 = w.drew.setCells g (0 + i * 11) news) := hW1
  have HN := hid hnews
  clear hW1 hs1 hcells e0 hA hsz hv hnews hlen
  obtain ⟨n, hN⟩ : ∃ n, n = l.length := ⟨_, rfl⟩
  rw [← hN] at hi hl hnc s1 hcl ⊢
  clear hN
  have hic : i ≤ c := by omega
  have hjc : i + 1 ≤ c := by omega
  have hb1 : (0 : Int) ≤ (i : Int) + 1 := by omega
  have hb2 : ((i : Int) == (i : Int) + 1) = false := by simp; omega
  have hb3 : (i : Int) ≤ (i : Int) + 1 := by omega
  have hb4 : (i : Int) + 1 ≤ (n : Int) := by omega
  have hb5 : (n : Int) ≤ (c : Int) := by omega
  have htn : ((i : Int) + 1).toNat = i + 1 := by omega
  have hb6 : ¬ ((i : Int) = (i : Int) + 1) := by omega
  have e2 : n - (i + (n - (i + 1))) = 1 := by omega
  have mixed : Try.prog.follows .mixedOrders = true := by kernel_rfl
  by_cases hc1 : c = i + 1
  · obtain rfl : n = i + 1 := by omega
    subst hc1
    have hb7 : ¬ (i + 1 = i) := by omega
    have e1 : i + (i + 1 - (i + 1)) = i := by omega
    have e4 : i + 1 - i = 1 := by omega
    have e3 : (i + 1 - (i + 1)) * 11 = 0 := by omega
    rw [e1] at hcl ⊢
    rw [e3] at s1
    clear e2
    go_enter Try.func16, Try.ntmps16
    go_wp2_with fail
    go_region_law_o (refine step_append_room rfl (.tmp 22) (.tmp 25) 23 rfl 25 i0 11 u63 hi0 hzs g 0 i (i + 1) (by simp [Act.eval, Act.put]) ⟨g, 0, none⟩ 0 0 news (by simp [Act.eval, Act.put]) s1.out (hsrc.out _ (by omega)) s2.out (by omega) s3.out ?_; rw [← hW.out])
    go_wp2
    go_ret
    exact ⟨rfl, by rw [hW.out, HN.out]⟩
  · have hb7 : ¬ (c = i) := by omega
    go_enter Try.func16, Try.ntmps16
    go_wp2_with fail
    go_region_law_o (refine step_append_room rfl (.tmp 22) (.tmp 25) 23 rfl 25 i0 11 u63 hi0 hzs g 0 i c (by simp [Act.eval, Act.put]) ⟨g, (i + 1) * 11, none⟩ (n - (i + 1)) (c - (i + 1)) news (by simp [Act.eval, Act.put]) s1.out (hsrc.out _ (fun _ => rfl)) s2.out (by omega) s3.out ?_; rw [← hW.out])
    go_wp2
    go_ret
    exact ⟨rfl, by rw [hW.out, HN.out]⟩
theorem Delete_c (l : List OpR) (i : Nat) (v : Value) (w : World) (base : Nat) (hv : w.ownsRow base 25 11 v l.length (opCells l)) (hi : i < l.length) (hl : l.length ≤ 1000000) :
    Calls Try.prog 16 #[v, .int .i64 (i : Int), .int .i64 ((i : Int) + 1)] w (InsPost base v (cutL i l) w) := by
  rcases hv.2 with ⟨-, hz⟩ | ⟨g, c, cur, rfl, -⟩
  · omega
  · obtain ⟨hsz, hnc, hcm, hbg, -⟩ := own_sized hv
    refine (DeleteAt_c l i g c w base hv hi hl).mono ?_
    rintro e w' ⟨rfl, rfl⟩
    have e1 : i + (l.length - (i + 1)) = l.length - 1 := by omega
    rw [e1, show 0 + i * 11 = i * 11 by omega]
    refine ⟨_, rfl, ?_, fun p => Moved.setCells (.inr (.inl rfl)) _ _ _ (Moved.setCells (.inr (.inl rfl)) _ _ _ (Moved.of_grow (Grow.drew _))), fun k hk => .inl hk⟩
    rw [cutL_length i l hi]
    refine own_of_cells hbg (Sized.sets g _ _ _ (Sized.sets g _ _ _ (hsz.grow (Grow.drew _)))) (by omega) hcm (by rw [opCells_length, cutL_length i l hi]) ?_
    exact cut_cells (e := 25) l i hi (hsz.grow (Grow.drew _)) (by omega) (fun j hj => hv.cellAt j hj)
end Go.Proofs.Ytljimlaalebmaaa
