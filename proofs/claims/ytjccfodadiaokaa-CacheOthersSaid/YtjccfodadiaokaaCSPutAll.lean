/- What a cache's New and Put do. -/
import Derived.Test.YtjccfodadiaokaaCSPut
namespace Go.Proofs.Ytjccfodadiaokaa.Str
open Go.RowKit
set_option linter.unusedVariables false
set_option linter.unusedSimpArgs false
/-- The row is put into its place in the cache. -/
theorem CacheAt.put {w w3 : World} {p : Nat} {most : Int} {v v' : Value} {l l' : List CItem} (hc : CacheAt w p most v l) (ho : w3.ownsRow (p + 1) 79 3 v' l'.length (itemCells l')) (hm : ∀ q, Moved q v.ownBlock w w3) :
    w3.heap[p]? = some (.cells #[.int .i64 most, v] 76 (0, 0)) ∧ CacheAt (w3.setCell ⟨p, 1, none⟩ v') p most v' l' := by
  have hp := heap_lt hc.1
  have h3 : w3.heap[p]? = some (.cells #[.int .i64 most, v] 76 (0, 0)) := by
    rw [(hm (p + 1)).block p hp (by omega) (fun e => by have := (hc.2.lt p e.symm).1; omega)]
    exact hc.1
  refine ⟨h3, heap_set h3 1 _, ho.1, ?_⟩
  rcases ho.2 with h | ⟨gg, cc, cur, h, h2, hg, h4⟩
  · exact .inl h
  · exact .inr ⟨gg, cc, cur, h, h2, heap_keep hg _ _ (by show gg ≠ p; omega), h4⟩
theorem own_form {w : World} {base : Nat} {e : TypeId} {size : Nat} {v : Value} {n : Nat} {xs : List Value} (h : w.ownsRow base e size v n xs) : ∃ A c, v = .slice A n c := by
  rcases h.2 with ⟨h1, h2⟩ | ⟨g, cap, cur, h1, _⟩
  · exact ⟨none, 0, by rw [h1, h2]⟩
  · exact ⟨_, cap, h1⟩
set_option maxRecDepth 100000 in
theorem New_c (most : Int) (w : World) (h1 : 1 ≤ most) (h2 : most ≤ 1024) : Calls Try.prog 15 #[.int .i64 most] w fun e w' => e = .returned (.tuple #[.pointer (some ⟨w.heap.size, 0, none⟩), .int .i64 0]) ∧ CacheAt w' w.heap.size most (.slice none 0 0) [] ∧ Grow w w' := by
  have hd1 : ¬ most < 1 := by omega
  have hd2 : ¬ 1024 < most := by omega
  go_enter Try.func15, Try.ntmps15
  go_wp2_with fail
  go_ret2
  exact ⟨rfl, ⟨heap_new w _, World.ownsRow_nil _ _ _ _⟩, Grow.alloc _ _⟩
set_option maxRecDepth 100000 in
theorem NewBad_c (most : Int) (w : World) (h : most < 1 ∨ 1024 < most) : Calls Try.prog 15 #[.int .i64 most] w fun e w' => e = .returned (.tuple #[.pointer none, .int .i64 1]) ∧ w = w' := by
  by_cases h1 : most < 1
  · go_enter Try.func15, Try.ntmps15
    go_wp2_with fail
    go_ret2
    exact ⟨rfl, rfl⟩
  · have h2 : 1024 < most := by omega
    clear h
    go_enter Try.func15, Try.ntmps15
    go_wp2_with fail
    go_ret2
    exact ⟨rfl, rfl⟩
set_option maxRecDepth 100000 in
theorem PutNil_c (k : ByteArray) (s : Int) (w : World) : Calls Try.prog 16 #[.pointer none, .string k, .int .i64 s] w fun e w' => e = .returned (.tuple #[.string ByteArray.empty, .bool false, .int .i64 3]) ∧ Grow w w' := by
  go_enter Try.func16, Try.ntmps16
  go_wp2_with fail
  go_ret3
  exact ⟨rfl, Grow.refl _⟩
set_option maxRecDepth 100000 in
theorem PutEmpty_c (p : Nat) (v : Value) (l : List CItem) (k : ByteArray) (s : Int) (w : World) (hc : CacheAt w p 0 v l) : Calls Try.prog 16 #[.pointer (some ⟨p, 0, none⟩), .string k, .int .i64 s] w fun e w' => e = .returned (.tuple #[.string ByteArray.empty, .bool false, .int .i64 3]) ∧ Grow w w' := by
  have hp := hc.1
  have c0 : w.cell? ⟨p, 0, none⟩ = some (.int .i64 0) := by rw [heap_cell hp]; rfl
  have hplt := heap_lt hp
  clear hp hc
  go_enter Try.func16, Try.ntmps16
  go_wp2_with fail
  go_ret3
  exact ⟨rfl, Grow.refl _⟩
set_option maxRecDepth 100000 in
set_option maxHeartbeats 2000000 in
theorem PutIn_c (p : Nat) (most : Int) (v : Value) (l : List CItem) (k : ByteArray) (s : Int) (i : Nat) (w : World) (hc : CacheAt w p most v l) (hl : l.length ≤ 1000000) (hm0 : (most == 0) = false) (hi : i < l.length) (hk : (l[i]).key = k) (hf : ∀ j (h : j < l.length), j < i → (l[j]).key ≠ k) :
    Calls Try.prog 16 #[.pointer (some ⟨p, 0, none⟩), .string k, .int .i64 s] w fun e w' => e = .returned (.tuple #[.string ByteArray.empty, .bool false, .int .i64 0]) ∧ CacheAt w' p most v (setHead s (frontL i l)) ∧ Moved p v.ownBlock w w' := by
  have HP := hid (place_c p most v l k i w hc hl (.inl ⟨i, rfl, hi, fun _ => hk, hf⟩))
  have HF := hid (fun w' (g : Grow w w') => frontAll_c p most v l i w' (hc.grow g) hl hi)
  have hlen := frontL_length i l hi
  have h0n : 0 < l.length := by omega
  have c0 : w.cell? ⟨p, 0, none⟩ = some (.int .i64 most) := by rw [heap_cell hc.1]; rfl
  have hplt := heap_lt hc.1
  clear hc hk hf
  obtain ⟨y, L, hL⟩ : ∃ y L, frontL i l = y :: L := by
    cases h : frontL i l with
    | nil => rw [h] at hlen; simp at hlen; omega
    | cons y L => exact ⟨y, L, rfl⟩
  rw [hL] at HF ⊢
  clear hL hlen
  have hi0 : (0 : Int) ≤ (i : Int) := by omega
  have hi1 : ¬ ((i : Int) < 0) := by omega
  go_enter Try.func16, Try.ntmps16
  go_wp2_with fail
  refine HP.out.mono ?_
  rintro e w2 ⟨rfl, g2⟩
  go_wp2_with fail
  refine (HF.out _ g2).mono ?_
  rintro e w3 ⟨⟨u, rfl⟩, hc3, hm3⟩
  obtain ⟨A, c, rfl, -, hcells⟩ := hc3.form
  obtain ⟨g, rfl, hpg, hsz, hcm, hat⟩ := hcells (by simp)
  have ha := hat 0 (by simp)
  unfold ItemAt at ha
  obtain ⟨-, a1, -⟩ := ha
  have c1 : w3.cell? ⟨p, 1, none⟩ = some (.slice (some ⟨g, 0, none⟩) (y :: L).length c) := by rw [heap_cell hc3.1]; rfl
  have hpl3 := heap_lt hc3.1
  have hgl : g < w3.heap.size := by obtain ⟨cur, h1, h2⟩ := hsz; exact heap_lt h1
  have z1 := hsz.free 1
  have HC3 := hid hc3
  have HM := hid ((Moved.of_grow g2).trans hm3 (fun _ e => .inl e))
  have a1' : w3.cell? ⟨g, 1, none⟩ = some (.int .i64 y.val) := by simpa using a1
  clear hc3 hcells hat hsz hcm hm3 a1
  have hne : g ≠ p := by omega
  have hnf : 0 < (y :: L).length := by simp
  have hnf2 : (0 : Int) < ((y :: L).length : Int) := by omega
  clear HF HP
  generalize hm : (y :: L).length = m at *
  have HMM := hid hm
  clear hm
  go_wp2_with fail
  go_ret3
  refine ⟨rfl, ?_, HM.out.setCell _ _ (.inr (.inl rfl))⟩
  have h3 := HC3.out
  rw [← HMM.out] at h3
  have h := h3.set 0 1 ⟨y.key, s, y.pins⟩ (.int .i64 s) (by simp) (by omega) rfl
  exact h
set_option maxRecDepth 100000 in
set_option maxHeartbeats 2000000 in
theorem PutRoom_c (p : Nat) (most : Int) (v : Value) (l : List CItem) (k : ByteArray) (s : Int) (w : World) (hc : CacheAt w p most v l) (hl : l.length ≤ 1000000) (hm0 : (most == 0) = false) (hk : ∀ x ∈ l, x.key ≠ k) (hroom : (l.length : Int) < most) :
    Calls Try.prog 16 #[.pointer (some ⟨p, 0, none⟩), .string k, .int .i64 s] w fun e w' => e = .returned (.tuple #[.string ByteArray.empty, .bool false, .int .i64 0]) ∧ ∃ v', CacheAt w' p most v' (⟨k, s, 0⟩ :: l) ∧ Moved p v.ownBlock w w' ∧ ∀ k, v'.ownBlock = some k → v.ownBlock = some k ∨ w.heap.size ≤ k := by
  have HP := hid (place_c p most v l k (-1) w hc hl (.inr ⟨rfl, hk⟩))
  have HIN := hid (fun (w' : World) (g : Grow w w') vb hx hne => Insert_c l ⟨k, s, 0⟩ v vb w' (p + 1) (by have := heap_lt hc.1; have := g.size; omega) (hc.grow g).2 hl hx hne)
  have HC := hid hc
  have HOB := hid (fun j hj => (hc.2.lt j hj).2)
  obtain ⟨A, c, rfl⟩ := own_form hc.2
  have c0 : w.cell? ⟨p, 0, none⟩ = some (.int .i64 most) := by rw [heap_cell hc.1]; rfl
  have c1 : w.cell? ⟨p, 1, none⟩ = some (.slice A l.length c) := by rw [heap_cell hc.1]; rfl
  have hplt := heap_lt hc.1
  clear hc hk
  have hlm : ¬ (most ≤ (l.length : Int)) := by omega
  have hbl : (l.length : Int) ≤ 1000000 := by omega
  generalize hn : l.length = n at *
  have HN := hid hn
  clear hn
  go_enter Try.func16, Try.ntmps16
  go_wp2_with fail
  refine HP.out.mono ?_
  rintro e w2 ⟨rfl, g2⟩
  have d0 := g2.cell c0
  have d1 := g2.cell c1
  have hpl2 : p < w2.heap.size := Nat.lt_of_lt_of_le hplt g2.size
  go_wp2_with fail
  go_quiet (fail)
  have hq0 : (w2.drewN nq).cell? ⟨p, 0, none⟩ = some (.int .i64 most) := d0
  have hq1 : (w2.drewN nq).cell? ⟨p, 1, none⟩ = some (.slice A n c) := d1
  have GQ := hid (Grow.drewNM g2 nq)
  have hpl4 : p < (w2.drewN nq).heap.size := hpl2
  generalize w2.drewN nq = w4 at *
  clear d0 d1 c0 c1 hpl2 HP
  go_wp2_with fail
  refine (HIN.out _ (Grow.trans GQ.out (Grow.alloc _ _)) _ (heap_new w4 _) (fun j hj e => by have := HOB.out j hj; have := GQ.out.size; omega)).mono ?_
  rintro e w3 ⟨v', rfl, ho, hm, hv'⟩
  obtain ⟨A', c', rfl⟩ := own_form ho
  have HC4 := HC.out.grow (Grow.trans GQ.out (Grow.alloc w4 (.cells #[.string k, .int .i64 s, .int .i64 0] 79)))
  obtain ⟨hp3, hput⟩ := HC4.put ho hm
  have q1 : w3.cell? ⟨p, 1, none⟩ = some (.slice A n c) := by rw [heap_cell hp3]; rfl
  have f1 : w3.frozen? ⟨p, 1, none⟩ = false := heap_frozen hp3 1 (by omega)
  have hlt3 := heap_lt hp3
  have HPUT := hid hput
  have HV := hid (show ∀ j, (Value.slice A' (({ key := k, val := s, pins := 0 } : CItem) :: l).length c').ownBlock = some j → (Value.slice A n c).ownBlock = some j ∨ w.heap.size ≤ j from fun j hj => by
    rcases hv' j hj with h | h
    · exact .inl h
    · exact .inr (Nat.le_trans (Grow.trans GQ.out (Grow.alloc w4 (.cells #[.string k, .int .i64 s, .int .i64 0] 79))).size h))
  have HM := hid ((Moved.of_grow (Grow.trans GQ.out (Grow.alloc w4 (.cells #[.string k, .int .i64 s, .int .i64 0] 79)))).trans (hm p) (fun _ e => .inl e))
  clear hp3 ho hm hv' hput HC4 HIN hq0 hq1
  generalize hmm : (({ key := k, val := s, pins := 0 } : CItem) :: l).length = m at *
  go_wp2_with fail
  go_ret3
  exact ⟨rfl, _, HPUT.out, HM.out.setCell _ _ (.inl rfl), HV.out⟩
end Go.Proofs.Ytjccfodadiaokaa.Str
