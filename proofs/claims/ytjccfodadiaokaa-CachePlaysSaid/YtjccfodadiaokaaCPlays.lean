/- What every call answers, and what is kept behind each: a call of both. -/
import Derived.Test.YtjccfodadiaokaaCRefAll
import Derived.Test.YtjccfodadiaokaaCIn
namespace Go.Proofs.Ytjccfodadiaokaa
open Go.RowKit
set_option linter.unusedVariables false
set_option linter.unusedSimpArgs false
/-- Both, in the heap. -/
def Both (w wr : World) (p rb : Nat) (most : Int) (l : List CItem) : Prop := ∃ v v', CacheAt wr p most v l ∧ (∀ k, v.ownBlock = some k → w.heap.size ≤ k) ∧ Below w.heap.size w wr ∧ w.heap.size ≤ p ∧
  wr.heap[rb]? = some (.cells #[.int .i64 most, v'] 57 (0, 0)) ∧ ROwn wr v' l ∧ w.heap.size ≤ rb
/-- Blocks of other types stay behind a cache's call. -/
theorem CacheAt.types {w : World} {p : Nat} {most : Int} {v : Value} {l : List CItem} (h : CacheAt w p most v l) {b : Nat} {cs : Array Value} {e : TypeId} {fr : Nat × Nat} (hb : w.heap[b]? = some (.cells cs e fr)) (h1 : e ≠ 65) (h2 : e ≠ 71) : b ≠ p ∧ some b ≠ v.ownBlock := by
  constructor
  · rintro rfl
    rw [h.1] at hb
    injection hb with hb
    injection hb with _ e _
    exact h1 e.symm
  · intro e
    rcases h.2.2 with ⟨rfl, -⟩ | ⟨g, cap, cur, rfl, h2', hg, -⟩
    · cases e
    · cases e
      rw [hg] at hb
      injection hb with hb
      injection hb with _ e _
      exact h2 e.symm
theorem Behind.keepT {p : Nat} {most : Int} {v : Value} {l l' : List CItem} {w w' : World} (hm : Behind p most v l' w w') (h : CacheAt w p most v l) {b : Nat} {cs : Array Value} {e : TypeId} {fr : Nat × Nat} (hb : w.heap[b]? = some (.cells cs e fr)) (h1 : e ≠ 65) (h2 : e ≠ 71) : w'.heap[b]? = some (.cells cs e fr) := by
  obtain ⟨v', -, hM, -⟩ := hm
  obtain ⟨a, c⟩ := h.types hb h1 h2
  exact (hM.block b (heap_lt hb) a c).trans hb
theorem Behind.rown {p : Nat} {most : Int} {v : Value} {l l' L : List CItem} {w w' : World} {u : Value} (hm : Behind p most v l' w w') (h : CacheAt w p most v l) (hr : ROwn w u L) : ROwn w' u L := by
  obtain ⟨⟨b, h1⟩, hl⟩ := hr
  refine ⟨⟨b, h1.1, ?_⟩, hl⟩
  rcases h1.2 with h2 | ⟨g, cap, cur, h2, h3, hg, h4⟩
  · exact .inl h2
  · exact .inr ⟨g, cap, cur, h2, h3, hm.keepT h hg (by decide) (by decide), h4⟩
theorem CacheAt.setT {w : World} {p : Nat} {most : Int} {v : Value} {l : List CItem} (h : CacheAt w p most v l) {b : Nat} {cs : Array Value} {e : TypeId} {fr : Nat × Nat} (hb : w.heap[b]? = some (.cells cs e fr)) (h1 : e ≠ 65) (h2 : e ≠ 71) (o : Nat) (u : Value) : CacheAt (w.setCell ⟨b, o, none⟩ u) p most v l := by
  obtain ⟨a, c⟩ := h.types hb h1 h2
  refine ⟨heap_keep h.1 _ _ (Ne.symm a), h.2.1, ?_⟩
  rcases h.2.2 with h3 | ⟨g, cap, cur, rfl, h3, hg, h4⟩
  · exact .inl h3
  · exact .inr ⟨g, cap, cur, rfl, h3, heap_keep hg _ _ (fun e => c (by rw [← show g = b from e]; rfl)), h4⟩
theorem Both.fin {w wr w6 w7 : World} {p rb b1 : Nat} {most : Int} {v u v5 : Value} {l L : List CItem} {c0 c1 : Value} (hc : CacheAt wr p most v l) (ho : ∀ k, v.ownBlock = some k → w.heap.size ≤ k) (hb : Below w.heap.size w wr) (hp : w.heap.size ≤ p) (hrb : w.heap.size ≤ rb)
    (hR : wr.heap[rb]? = some (.cells #[.int .i64 most, u] 57 (0, 0))) (G6 : Grow wr w6) (o6 : ROwn w6 v5 L) (k1 : w6.heap[b1]? = some (.cells #[c0, c1] 57 (0, 0))) (hb1 : wr.heap.size ≤ b1) (hbeh : Behind p most v L w6 w7) :
    Both w ((((w7.setCell ⟨b1, 0, none⟩ (.int .i64 most)).setCell ⟨b1, 1, none⟩ v5).setCell ⟨rb, 0, none⟩ (.int .i64 most)).setCell ⟨rb, 1, none⟩ v5) p rb most L := by
  have hc6 := hc.grow G6
  have hne : rb ≠ b1 := by have := heap_lt hR; omega
  have k17 := hbeh.keepT hc6 k1 (by decide) (by decide)
  have kr7 := hbeh.keepT hc6 (G6.heap hR) (by decide) (by decide)
  have o7 := hbeh.rown hc6 o6
  have hhb := hb.size
  have HB : Below w.heap.size w w7 := by
    obtain ⟨v', h1, h2, h3⟩ := hbeh
    exact Below.trans (Below.trans hb (Below.mono G6 hb.size)) (h2.below (by have := G6.size; omega) hp ho)
  have HBB : Below w.heap.size w ((((w7.setCell ⟨b1, 0, none⟩ (.int .i64 most)).setCell ⟨b1, 1, none⟩ v5).setCell ⟨rb, 0, none⟩ (.int .i64 most)).setCell ⟨rb, 1, none⟩ v5) :=
    Below.setCell (Below.setCell (Below.setCell (Below.setCell HB (by show w.heap.size ≤ b1; omega) _) (by show w.heap.size ≤ b1; omega) _) hrb _) hrb _
  obtain ⟨v', h1, h2, h3⟩ := hbeh
  have e1 := heap_set (heap_set k17 0 (.int .i64 most)) 1 v5
  have e2 := heap_keep (heap_keep kr7 ⟨b1, 0, none⟩ (.int .i64 most) hne) ⟨b1, 1, none⟩ v5 hne
  have e3 := heap_set e2 0 (.int .i64 most)
  refine ⟨v', v5, (((h1.setT k17 (by decide) (by decide) 0 _).setT (heap_set k17 0 _) (by decide) (by decide) 1 _).setT e2 (by decide) (by decide) 0 _).setT e3 (by decide) (by decide) 1 _, fun k hk => (h3 k hk).elim (ho k) (fun h => by have := G6.size; omega), HBB, hp, heap_set e3 1 v5, ?_, hrb⟩
  exact (o7.set2 k17 _ _).set2 e2 _ _
theorem Both.fin2 {w wr w6 w7 : World} {p rb : Nat} {most : Int} {v u v5 : Value} {l L : List CItem} (hc : CacheAt wr p most v l) (ho : ∀ k, v.ownBlock = some k → w.heap.size ≤ k) (hb : Below w.heap.size w wr) (hp : w.heap.size ≤ p) (hrb : w.heap.size ≤ rb)
    (hR : wr.heap[rb]? = some (.cells #[.int .i64 most, u] 57 (0, 0))) (G6 : Grow wr w6) (o6 : ROwn w6 v5 L) (hbeh : Behind p most v L w6 w7) :
    Both w ((w7.setCell ⟨rb, 0, none⟩ (.int .i64 most)).setCell ⟨rb, 1, none⟩ v5) p rb most L := by
  have hc6 := hc.grow G6
  have kr7 := hbeh.keepT hc6 (G6.heap hR) (by decide) (by decide)
  have o7 := hbeh.rown hc6 o6
  have hhb := hb.size
  have HB : Below w.heap.size w w7 := by
    obtain ⟨v', h1, h2, h3⟩ := hbeh
    exact Below.trans (Below.trans hb (Below.mono G6 hb.size)) (h2.below (by have := G6.size; omega) hp ho)
  have HBB : Below w.heap.size w ((w7.setCell ⟨rb, 0, none⟩ (.int .i64 most)).setCell ⟨rb, 1, none⟩ v5) :=
    Below.setCell (Below.setCell HB hrb _) hrb _
  obtain ⟨v', h1, h2, h3⟩ := hbeh
  have e3 := heap_set kr7 0 (.int .i64 most)
  exact ⟨v', v5, (h1.setT kr7 (by decide) (by decide) 0 _).setT e3 (by decide) (by decide) 1 _, fun k hk => (h3 k hk).elim (ho k) (fun h => by have := G6.size; omega), HBB, hp, heap_set e3 1 v5, o7.set2 kr7 _ _, hrb⟩
--KINDS
set_option maxRecDepth 100000 in
set_option maxHeartbeats 4000000 in
theorem does0_c (w wr : World) (p rb : Nat) (most : Int) (l : List CItem) (j : Nat) (k : Int) (s : ByteArray) (hB : Both w wr p rb most l) (hk : Keeps j most l) (hm : most ≤ 1024) (hm1 : 1 ≤ most) :
    Calls Try.prog 22 #[.pointer (some ⟨p, 0, none⟩), .pointer (some ⟨rb, 0, none⟩), .agg #[.int .i64 0, .int .i64 k, .string s]] wr fun e w' => e = .returned (.bool true) ∧ Both w w' p rb most (getP l k).1 := by
  obtain ⟨v, v', hc, ho, hb, hp, hr, hro, hrb⟩ := hB
  obtain ⟨A, c, rfl, -, -, -⟩ := hro.items
  have HG := hid (fun (w' : World) (g : Grow wr w') => RGet_c j most _ l k w' (hro.grow g) hk hm)
  have HC := hid hc
  have HGET := hid (fun (w' : World) (h : CacheAt w' p most v l) => Get_c p most v l k w' h (by have := hk.len; omega))
  generalize (getP l k).1 = L at *
  generalize (getP l k).2.1 = sv at *
  generalize (getP l k).2.2 = ok at *
  have HR := hid hr
  have hlr := heap_lt hr
  have p0 : wr.cell? ⟨rb, 0, none⟩ = some (.int .i64 most) := by rw [heap_cell hr]; rfl
  have p1 : wr.cell? ⟨rb, 1, none⟩ = some (.slice A l.length c) := by rw [heap_cell hr]; rfl
  have p2 : wr.frozen? ⟨rb, 0, none⟩ = false := heap_frozen hr 0 (by omega)
  have p3 : wr.frozen? ⟨rb, 1, none⟩ = false := heap_frozen hr 1 (by omega)
  clear hro hr hc hk
  go_enter Try.func22, Try.ntmps22
  go_wp2_with fail
  have b0 := heap_alloc_keep (heap_new wr (.cells #[.int .i64 0, .int .i64 k, .string s] 37)) (.cells #[.int .i64 most, .slice A l.length c] 57)
  have b1 := heap_newAt (g := wr.heap.size + 1) (wr.alloc (.cells #[.int .i64 0, .int .i64 k, .string s] 37)) (.cells #[.int .i64 most, .slice A l.length c] 57) (by simp)
  have g2 := Grow.trans (Grow.alloc wr (.cells #[.int .i64 0, .int .i64 k, .string s] 37)) (Grow.alloc _ (.cells #[.int .i64 most, .slice A l.length c] 57))
  have hsz : ((wr.alloc (.cells #[.int .i64 0, .int .i64 k, .string s] 37)).alloc (.cells #[.int .i64 most, .slice A l.length c] 57)).heap.size = wr.heap.size + 1 + 1 := by simp
  generalize (wr.alloc (.cells #[.int .i64 0, .int .i64 k, .string s] 37)).alloc (.cells #[.int .i64 most, .slice A l.length c] 57) = W at *
  have G2 := hid g2
  have q0 := G2.out.cell p0
  have q1 := G2.out.cell p1
  have r1 : W.cell? ⟨wr.heap.size, 1, none⟩ = some (.int .i64 k) := by rw [heap_cell b0]; rfl
  have r2 : W.cell? ⟨wr.heap.size, 2, none⟩ = some (.string s) := by rw [heap_cell b0]; rfl
  have B0 := hid b0
  have B1 := hid b1
  clear b0 b1 g2 p0 p1 p2 p3
  have n2 : rb ≠ wr.heap.size + 1 + 1 := by omega
  have n3 : wr.heap.size + 1 + 1 ≠ rb := by omega
  have n6 : wr.heap.size ≠ wr.heap.size + 1 + 1 := by omega
  have n7 : wr.heap.size + 1 + 1 ≠ wr.heap.size := by omega
  have hlW := heap_lt B1.out
  go_region_held3 (fun w' => w'.cell? ⟨rb, 0, none⟩ = some (.int .i64 most) ∧ w'.cell? ⟨rb, 1, none⟩ = some (.slice A l.length c) ∧ w'.cell? ⟨wr.heap.size, 1, none⟩ = some (.int .i64 k) ∧ w'.cell? ⟨wr.heap.size, 2, none⟩ = some (.string s)) (go_keep)
    ((go_at_call 35; first
      | (refine (HG.out _ (Grow.trans G2.out (Grow.drew _))).mono ?_; rintro e w5 ⟨⟨v5, rfl, o5⟩, g5⟩; have G5 := hid (Grow.trans (Grow.drew _) g5); have t0 := g5.cell q0; have t1 := g5.cell q1; have t2 := g5.cell r1; have t3 := g5.cell r2; have OO := hid o5; obtain ⟨⟨bb, ho5⟩, hm5⟩ := o5; obtain ⟨A5, c5, rfl⟩ := own_form ho5; have g5s := G5.out.size; have n0 : rb ≠ w5.heap.size := (by omega); have n1 : wr.heap.size ≠ w5.heap.size := (by omega); have n4 : w5.heap.size ≠ rb := (by omega); have n5 : w5.heap.size ≠ wr.heap.size := (by omega); clear ho5 hm5)
      | (refine (HG.out _ (Grow.trans G2.out (Grow.trans (Grow.alloc _ _) (Grow.drew _)))).mono ?_; rintro e w5 ⟨⟨v5, rfl, o5⟩, g5⟩; have G5 := hid (Grow.trans (Grow.trans (Grow.alloc _ _) (Grow.drew _)) g5); have t0 := g5.cell (Grow.cell (Grow.trans (Grow.alloc _ _) (Grow.drew _)) q0); have t1 := g5.cell (Grow.cell (Grow.trans (Grow.alloc _ _) (Grow.drew _)) q1); have t2 := g5.cell (Grow.cell (Grow.trans (Grow.alloc _ _) (Grow.drew _)) r1); have t3 := g5.cell (Grow.cell (Grow.trans (Grow.alloc _ _) (Grow.drew _)) r2)
         have kk := g5.heap ((Grow.drew _).heap (heap_new W (.cells #[.int .i64 0, .slice none 0 0] 57)))
         rw [hsz] at kk
         have y0 : w5.cell? ⟨wr.heap.size + 1 + 1, 0, none⟩ = some (.int .i64 0) := (by rw [heap_cell kk]; rfl)
         have y1 : w5.cell? ⟨wr.heap.size + 1 + 1, 1, none⟩ = some (.slice none 0 0) := (by rw [heap_cell kk]; rfl)
         have y2 : w5.frozen? ⟨wr.heap.size + 1 + 1, 0, none⟩ = false := heap_frozen kk 0 (by omega)
         have y3 : w5.frozen? ⟨wr.heap.size + 1 + 1, 1, none⟩ = false := heap_frozen kk 1 (by omega)
         have KK := hid kk
         clear kk
         have OO := hid o5; obtain ⟨⟨bb, ho5⟩, hm5⟩ := o5; obtain ⟨A5, c5, rfl⟩ := own_form ho5; clear ho5 hm5)))
  all_goals clear HG
  all_goals go_wp2_with fail
  all_goals first
    | (have k6 := heap_new w5 (.cells #[.int .i64 most, .slice A5 L.length c5] 57)
       have G6 := hid (Grow.trans G2.out (Grow.trans G5.out (Grow.alloc w5 (.cells #[.int .i64 most, .slice A5 L.length c5] 57))))
       have o6 := hid (OO.out.grow (Grow.alloc w5 (.cells #[.int .i64 most, .slice A5 L.length c5] 57)))
       have k1 := (Grow.alloc w5 (.cells #[.int .i64 most, .slice A5 L.length c5] 57)).heap (G5.out.heap B1.out)
       refine (HGET.out _ (HC.out.grow G6.out)).mono ?_
       rintro e w7 ⟨rfl, hbeh⟩
       generalize w5.alloc (.cells #[.int .i64 most, .slice A5 L.length c5] 57) = W6 at *
       generalize w5.heap.size = X at *)
    | (have k6 : ((w5.setCell ⟨wr.heap.size + 1 + 1, 0, none⟩ (.int .i64 most)).setCell ⟨wr.heap.size + 1 + 1, 1, none⟩ (.slice A5 L.length c5)).heap[wr.heap.size + 1 + 1]? = some (.cells #[.int .i64 most, .slice A5 L.length c5] 57 (0, 0)) := heap_set (heap_set KK.out 0 (.int .i64 most)) 1 (.slice A5 L.length c5)
       have G6 := hid (show Grow wr ((w5.setCell ⟨wr.heap.size + 1 + 1, 0, none⟩ (.int .i64 most)).setCell ⟨wr.heap.size + 1 + 1, 1, none⟩ (.slice A5 L.length c5)) from Below.setCell (Below.setCell (Grow.trans G2.out G5.out) (by show wr.heap.size ≤ wr.heap.size + 1 + 1; omega) _) (by show wr.heap.size ≤ wr.heap.size + 1 + 1; omega) _)
       have o6 := hid (OO.out.set2 KK.out (.int .i64 most) (.slice A5 L.length c5))
       have k1 := heap_keep (heap_keep (G5.out.heap B1.out) ⟨wr.heap.size + 1 + 1, 0, none⟩ (.int .i64 most) (by show wr.heap.size + 1 ≠ wr.heap.size + 1 + 1; omega)) ⟨wr.heap.size + 1 + 1, 1, none⟩ (.slice A5 L.length c5) (by show wr.heap.size + 1 ≠ wr.heap.size + 1 + 1; omega)
       refine (HGET.out _ (HC.out.grow G6.out)).mono ?_
       rintro e w7 ⟨rfl, hbeh⟩
       generalize (w5.setCell ⟨wr.heap.size + 1 + 1, 0, none⟩ (.int .i64 most)).setCell ⟨wr.heap.size + 1 + 1, 1, none⟩ (.slice A5 L.length c5) = W6 at *
       generalize wr.heap.size + 1 + 1 = X at *)
  all_goals
    have K1 := hid k1
    have K6 := hid k6
    clear k1 k6 B0 B1
    have l7 := hbeh.keepT (HC.out.grow G6.out) K1.out (by decide) (by decide)
    have x7 := hbeh.keepT (HC.out.grow G6.out) K6.out (by decide) (by decide)
    have r7 := hbeh.keepT (HC.out.grow G6.out) (G6.out.heap HR.out) (by decide) (by decide)
    have y0 : w7.cell? ⟨X, 0, none⟩ = some (.int .i64 most) := by rw [heap_cell x7]; rfl
    have y1 : w7.cell? ⟨X, 1, none⟩ = some (.slice A5 L.length c5) := by rw [heap_cell x7]; rfl
    have z0 : w7.cell? ⟨wr.heap.size + 1, 0, none⟩ = some (.int .i64 most) := by rw [heap_cell l7]; rfl
    have z1 : w7.cell? ⟨wr.heap.size + 1, 1, none⟩ = some (.slice A l.length c) := by rw [heap_cell l7]; rfl
    have z2 : w7.frozen? ⟨wr.heap.size + 1, 0, none⟩ = false := heap_frozen l7 0 (by omega)
    have z3 : w7.frozen? ⟨wr.heap.size + 1, 1, none⟩ = false := heap_frozen l7 1 (by omega)
    have u0 : w7.cell? ⟨rb, 0, none⟩ = some (.int .i64 most) := by rw [heap_cell r7]; rfl
    have u1 : w7.cell? ⟨rb, 1, none⟩ = some (.slice A l.length c) := by rw [heap_cell r7]; rfl
    have u2 : w7.frozen? ⟨rb, 0, none⟩ = false := heap_frozen r7 0 (by omega)
    have u3 : w7.frozen? ⟨rb, 1, none⟩ = false := heap_frozen r7 1 (by omega)
    have n8 : rb ≠ wr.heap.size + 1 := by omega
    have n9 : wr.heap.size + 1 ≠ rb := by omega
    have HF := hid (Both.fin HC.out ho hb hp hrb HR.out G6.out o6.out K1.out (by omega) hbeh)
    clear l7 x7 r7 hbeh q0 q1 r1 r2 t0 t1 t2 t3
    go_wp2_with fail
    go_ret
    exact ⟨rfl, HF.out⟩
set_option maxRecDepth 100000 in
set_option maxHeartbeats 4000000 in
theorem does1_c (w wr : World) (p rb : Nat) (most : Int) (l : List CItem) (j : Nat) (k : Int) (s : ByteArray) (hB : Both w wr p rb most l) (hk : Keeps j most l) (hm : most ≤ 1024) (hm1 : 1 ≤ most) :
    Calls Try.prog 22 #[.pointer (some ⟨p, 0, none⟩), .pointer (some ⟨rb, 0, none⟩), .agg #[.int .i64 1, .int .i64 k, .string s]] wr fun e w' => e = .returned (.bool true) ∧ Both w w' p rb most (putP most l k s).1 := by
  obtain ⟨v, v', hc, ho, hb, hp, hr, hro, hrb⟩ := hB
  obtain ⟨A, c, rfl, -, -, -⟩ := hro.items
  have HG := hid (fun (w' : World) (g : Grow wr w') => RPut_c j most _ l k s w' (hro.grow g) hk hm)
  have HC := hid hc
  have HGET := hid (fun (w' : World) (h : CacheAt w' p most v l) => Put_c p most v l k s w' h (by have := hk.len; omega) hm1)
  generalize (putP most l k s).1 = L at *
  generalize (putP most l k s).2.1 = kk1 at *
  generalize (putP most l k s).2.2.1 = ok at *
  generalize (putP most l k s).2.2.2 = ee at *
  have HR := hid hr
  have hlr := heap_lt hr
  have p0 : wr.cell? ⟨rb, 0, none⟩ = some (.int .i64 most) := by rw [heap_cell hr]; rfl
  have p1 : wr.cell? ⟨rb, 1, none⟩ = some (.slice A l.length c) := by rw [heap_cell hr]; rfl
  have p2 : wr.frozen? ⟨rb, 0, none⟩ = false := heap_frozen hr 0 (by omega)
  have p3 : wr.frozen? ⟨rb, 1, none⟩ = false := heap_frozen hr 1 (by omega)
  clear hro hr hc hk
  go_enter Try.func22, Try.ntmps22
  go_wp2_with fail
  have b0 := heap_alloc_keep (heap_new wr (.cells #[.int .i64 1, .int .i64 k, .string s] 37)) (.cells #[.int .i64 most, .slice A l.length c] 57)
  have b1 := heap_newAt (g := wr.heap.size + 1) (wr.alloc (.cells #[.int .i64 1, .int .i64 k, .string s] 37)) (.cells #[.int .i64 most, .slice A l.length c] 57) (by simp)
  have g2 := Grow.trans (Grow.alloc wr (.cells #[.int .i64 1, .int .i64 k, .string s] 37)) (Grow.alloc _ (.cells #[.int .i64 most, .slice A l.length c] 57))
  have hsz : ((wr.alloc (.cells #[.int .i64 1, .int .i64 k, .string s] 37)).alloc (.cells #[.int .i64 most, .slice A l.length c] 57)).heap.size = wr.heap.size + 1 + 1 := by simp
  generalize (wr.alloc (.cells #[.int .i64 1, .int .i64 k, .string s] 37)).alloc (.cells #[.int .i64 most, .slice A l.length c] 57) = W at *
  have G2 := hid g2
  have q0 := G2.out.cell p0
  have q1 := G2.out.cell p1
  have r1 : W.cell? ⟨wr.heap.size, 1, none⟩ = some (.int .i64 k) := by rw [heap_cell b0]; rfl
  have r2 : W.cell? ⟨wr.heap.size, 2, none⟩ = some (.string s) := by rw [heap_cell b0]; rfl
  have B0 := hid b0
  have B1 := hid b1
  clear b0 b1 g2 p0 p1 p2 p3
  have n2 : rb ≠ wr.heap.size + 1 + 1 := by omega
  have n3 : wr.heap.size + 1 + 1 ≠ rb := by omega
  have n6 : wr.heap.size ≠ wr.heap.size + 1 + 1 := by omega
  have n7 : wr.heap.size + 1 + 1 ≠ wr.heap.size := by omega
  have hlW := heap_lt B1.out
  go_region_held3 (fun w' => w'.cell? ⟨rb, 0, none⟩ = some (.int .i64 most) ∧ w'.cell? ⟨rb, 1, none⟩ = some (.slice A l.length c) ∧ w'.cell? ⟨wr.heap.size, 1, none⟩ = some (.int .i64 k) ∧ w'.cell? ⟨wr.heap.size, 2, none⟩ = some (.string s)) (go_keep)
    ((go_at_call 36; first
      | (refine (HG.out _ (Grow.trans G2.out (Grow.drew _))).mono ?_; rintro e w5 ⟨⟨v5, rfl, o5⟩, g5⟩; have G5 := hid (Grow.trans (Grow.drew _) g5); have t0 := g5.cell q0; have t1 := g5.cell q1; have t2 := g5.cell r1; have t3 := g5.cell r2; have OO := hid o5; obtain ⟨⟨bb, ho5⟩, hm5⟩ := o5; obtain ⟨A5, c5, rfl⟩ := own_form ho5; have g5s := G5.out.size; have n0 : rb ≠ w5.heap.size := (by omega); have n1 : wr.heap.size ≠ w5.heap.size := (by omega); have n4 : w5.heap.size ≠ rb := (by omega); have n5 : w5.heap.size ≠ wr.heap.size := (by omega); clear ho5 hm5)
      | (refine (HG.out _ (Grow.trans G2.out (Grow.trans (Grow.alloc _ _) (Grow.drew _)))).mono ?_; rintro e w5 ⟨⟨v5, rfl, o5⟩, g5⟩; have G5 := hid (Grow.trans (Grow.trans (Grow.alloc _ _) (Grow.drew _)) g5); have t0 := g5.cell (Grow.cell (Grow.trans (Grow.alloc _ _) (Grow.drew _)) q0); have t1 := g5.cell (Grow.cell (Grow.trans (Grow.alloc _ _) (Grow.drew _)) q1); have t2 := g5.cell (Grow.cell (Grow.trans (Grow.alloc _ _) (Grow.drew _)) r1); have t3 := g5.cell (Grow.cell (Grow.trans (Grow.alloc _ _) (Grow.drew _)) r2)
         have kk := g5.heap ((Grow.drew _).heap (heap_new W (.cells #[.int .i64 0, .slice none 0 0] 57)))
         rw [hsz] at kk
         have y0 : w5.cell? ⟨wr.heap.size + 1 + 1, 0, none⟩ = some (.int .i64 0) := (by rw [heap_cell kk]; rfl)
         have y1 : w5.cell? ⟨wr.heap.size + 1 + 1, 1, none⟩ = some (.slice none 0 0) := (by rw [heap_cell kk]; rfl)
         have y2 : w5.frozen? ⟨wr.heap.size + 1 + 1, 0, none⟩ = false := heap_frozen kk 0 (by omega)
         have y3 : w5.frozen? ⟨wr.heap.size + 1 + 1, 1, none⟩ = false := heap_frozen kk 1 (by omega)
         have KK := hid kk
         clear kk
         have OO := hid o5; obtain ⟨⟨bb, ho5⟩, hm5⟩ := o5; obtain ⟨A5, c5, rfl⟩ := own_form ho5; clear ho5 hm5)))
  all_goals clear HG
  all_goals go_wp2_with fail
  all_goals first
    | (have k6 := heap_new w5 (.cells #[.int .i64 most, .slice A5 L.length c5] 57)
       have G6 := hid (Grow.trans G2.out (Grow.trans G5.out (Grow.alloc w5 (.cells #[.int .i64 most, .slice A5 L.length c5] 57))))
       have o6 := hid (OO.out.grow (Grow.alloc w5 (.cells #[.int .i64 most, .slice A5 L.length c5] 57)))
       have k1 := (Grow.alloc w5 (.cells #[.int .i64 most, .slice A5 L.length c5] 57)).heap (G5.out.heap B1.out)
       refine (HGET.out _ (HC.out.grow G6.out)).mono ?_
       rintro e w7 ⟨rfl, hbeh⟩
       generalize w5.alloc (.cells #[.int .i64 most, .slice A5 L.length c5] 57) = W6 at *
       generalize w5.heap.size = X at *)
    | (have k6 : ((w5.setCell ⟨wr.heap.size + 1 + 1, 0, none⟩ (.int .i64 most)).setCell ⟨wr.heap.size + 1 + 1, 1, none⟩ (.slice A5 L.length c5)).heap[wr.heap.size + 1 + 1]? = some (.cells #[.int .i64 most, .slice A5 L.length c5] 57 (0, 0)) := heap_set (heap_set KK.out 0 (.int .i64 most)) 1 (.slice A5 L.length c5)
       have G6 := hid (show Grow wr ((w5.setCell ⟨wr.heap.size + 1 + 1, 0, none⟩ (.int .i64 most)).setCell ⟨wr.heap.size + 1 + 1, 1, none⟩ (.slice A5 L.length c5)) from Below.setCell (Below.setCell (Grow.trans G2.out G5.out) (by show wr.heap.size ≤ wr.heap.size + 1 + 1; omega) _) (by show wr.heap.size ≤ wr.heap.size + 1 + 1; omega) _)
       have o6 := hid (OO.out.set2 KK.out (.int .i64 most) (.slice A5 L.length c5))
       have k1 := heap_keep (heap_keep (G5.out.heap B1.out) ⟨wr.heap.size + 1 + 1, 0, none⟩ (.int .i64 most) (by show wr.heap.size + 1 ≠ wr.heap.size + 1 + 1; omega)) ⟨wr.heap.size + 1 + 1, 1, none⟩ (.slice A5 L.length c5) (by show wr.heap.size + 1 ≠ wr.heap.size + 1 + 1; omega)
       refine (HGET.out _ (HC.out.grow G6.out)).mono ?_
       rintro e w7 ⟨rfl, hbeh⟩
       generalize (w5.setCell ⟨wr.heap.size + 1 + 1, 0, none⟩ (.int .i64 most)).setCell ⟨wr.heap.size + 1 + 1, 1, none⟩ (.slice A5 L.length c5) = W6 at *
       generalize wr.heap.size + 1 + 1 = X at *)
  all_goals
    have K1 := hid k1
    have K6 := hid k6
    clear k1 k6 B0 B1
    have l7 := hbeh.keepT (HC.out.grow G6.out) K1.out (by decide) (by decide)
    have x7 := hbeh.keepT (HC.out.grow G6.out) K6.out (by decide) (by decide)
    have r7 := hbeh.keepT (HC.out.grow G6.out) (G6.out.heap HR.out) (by decide) (by decide)
    have y0 : w7.cell? ⟨X, 0, none⟩ = some (.int .i64 most) := by rw [heap_cell x7]; rfl
    have y1 : w7.cell? ⟨X, 1, none⟩ = some (.slice A5 L.length c5) := by rw [heap_cell x7]; rfl
    have z0 : w7.cell? ⟨wr.heap.size + 1, 0, none⟩ = some (.int .i64 most) := by rw [heap_cell l7]; rfl
    have z1 : w7.cell? ⟨wr.heap.size + 1, 1, none⟩ = some (.slice A l.length c) := by rw [heap_cell l7]; rfl
    have z2 : w7.frozen? ⟨wr.heap.size + 1, 0, none⟩ = false := heap_frozen l7 0 (by omega)
    have z3 : w7.frozen? ⟨wr.heap.size + 1, 1, none⟩ = false := heap_frozen l7 1 (by omega)
    have u0 : w7.cell? ⟨rb, 0, none⟩ = some (.int .i64 most) := by rw [heap_cell r7]; rfl
    have u1 : w7.cell? ⟨rb, 1, none⟩ = some (.slice A l.length c) := by rw [heap_cell r7]; rfl
    have u2 : w7.frozen? ⟨rb, 0, none⟩ = false := heap_frozen r7 0 (by omega)
    have u3 : w7.frozen? ⟨rb, 1, none⟩ = false := heap_frozen r7 1 (by omega)
    have n8 : rb ≠ wr.heap.size + 1 := by omega
    have n9 : wr.heap.size + 1 ≠ rb := by omega
    have HF := hid (Both.fin HC.out ho hb hp hrb HR.out G6.out o6.out K1.out (by omega) hbeh)
    clear l7 x7 r7 hbeh q0 q1 r1 r2 t0 t1 t2 t3
    go_wp2_with fail
    go_ret
    exact ⟨rfl, HF.out⟩
set_option maxRecDepth 100000 in
set_option maxHeartbeats 4000000 in
theorem does2_c (w wr : World) (p rb : Nat) (most : Int) (l : List CItem) (j : Nat) (k : Int) (s : ByteArray) (hB : Both w wr p rb most l) (hk : Keeps j most l) (hm : most ≤ 1024) (hm1 : 1 ≤ most) (hj : j ≤ 1000) :
    Calls Try.prog 22 #[.pointer (some ⟨p, 0, none⟩), .pointer (some ⟨rb, 0, none⟩), .agg #[.int .i64 2, .int .i64 k, .string s]] wr fun e w' => e = .returned (.bool true) ∧ Both w w' p rb most (pinP l k).1 := by
  obtain ⟨v, v', hc, ho, hb, hp, hr, hro, hrb⟩ := hB
  obtain ⟨A, c, rfl, -, -, -⟩ := hro.items
  have HG := hid (fun (w' : World) (g : Grow wr w') => RPin_c j most _ l k w' (hro.grow g) hk hm hj)
  have HC := hid hc
  have HGET := hid (fun (w' : World) (h : CacheAt w' p most v l) => Pin_c p most v l k w' h (by have := hk.len; omega) (fun x hx => by have := hk.pins x hx; omega))
  generalize (pinP l k).1 = L at *
  generalize (pinP l k).2 = ok at *
  have HR := hid hr
  have hlr := heap_lt hr
  have p0 : wr.cell? ⟨rb, 0, none⟩ = some (.int .i64 most) := by rw [heap_cell hr]; rfl
  have p1 : wr.cell? ⟨rb, 1, none⟩ = some (.slice A l.length c) := by rw [heap_cell hr]; rfl
  have p2 : wr.frozen? ⟨rb, 0, none⟩ = false := heap_frozen hr 0 (by omega)
  have p3 : wr.frozen? ⟨rb, 1, none⟩ = false := heap_frozen hr 1 (by omega)
  clear hro hr hc hk
  go_enter Try.func22, Try.ntmps22
  go_wp2_with fail
  have b0 := heap_alloc_keep (heap_new wr (.cells #[.int .i64 2, .int .i64 k, .string s] 37)) (.cells #[.int .i64 most, .slice A l.length c] 57)
  have b1 := heap_newAt (g := wr.heap.size + 1) (wr.alloc (.cells #[.int .i64 2, .int .i64 k, .string s] 37)) (.cells #[.int .i64 most, .slice A l.length c] 57) (by simp)
  have g2 := Grow.trans (Grow.alloc wr (.cells #[.int .i64 2, .int .i64 k, .string s] 37)) (Grow.alloc _ (.cells #[.int .i64 most, .slice A l.length c] 57))
  have hsz : ((wr.alloc (.cells #[.int .i64 2, .int .i64 k, .string s] 37)).alloc (.cells #[.int .i64 most, .slice A l.length c] 57)).heap.size = wr.heap.size + 1 + 1 := by simp
  generalize (wr.alloc (.cells #[.int .i64 2, .int .i64 k, .string s] 37)).alloc (.cells #[.int .i64 most, .slice A l.length c] 57) = W at *
  have G2 := hid g2
  have q0 := G2.out.cell p0
  have q1 := G2.out.cell p1
  have r1 : W.cell? ⟨wr.heap.size, 1, none⟩ = some (.int .i64 k) := by rw [heap_cell b0]; rfl
  have r2 : W.cell? ⟨wr.heap.size, 2, none⟩ = some (.string s) := by rw [heap_cell b0]; rfl
  have B0 := hid b0
  have B1 := hid b1
  clear b0 b1 g2 p0 p1 p2 p3
  have n2 : rb ≠ wr.heap.size + 1 + 1 := by omega
  have n3 : wr.heap.size + 1 + 1 ≠ rb := by omega
  have n6 : wr.heap.size ≠ wr.heap.size + 1 + 1 := by omega
  have n7 : wr.heap.size + 1 + 1 ≠ wr.heap.size := by omega
  have hlW := heap_lt B1.out
  go_region_held3 (fun w' => w'.cell? ⟨rb, 0, none⟩ = some (.int .i64 most) ∧ w'.cell? ⟨rb, 1, none⟩ = some (.slice A l.length c) ∧ w'.cell? ⟨wr.heap.size, 1, none⟩ = some (.int .i64 k) ∧ w'.cell? ⟨wr.heap.size, 2, none⟩ = some (.string s)) (go_keep)
    ((go_at_call 37; first
      | (refine (HG.out _ (Grow.trans G2.out (Grow.drew _))).mono ?_; rintro e w5 ⟨⟨v5, rfl, o5⟩, g5⟩; have G5 := hid (Grow.trans (Grow.drew _) g5); have t0 := g5.cell q0; have t1 := g5.cell q1; have t2 := g5.cell r1; have t3 := g5.cell r2; have OO := hid o5; obtain ⟨⟨bb, ho5⟩, hm5⟩ := o5; obtain ⟨A5, c5, rfl⟩ := own_form ho5; have g5s := G5.out.size; have n0 : rb ≠ w5.heap.size := (by omega); have n1 : wr.heap.size ≠ w5.heap.size := (by omega); have n4 : w5.heap.size ≠ rb := (by omega); have n5 : w5.heap.size ≠ wr.heap.size := (by omega); clear ho5 hm5)
      | (refine (HG.out _ (Grow.trans G2.out (Grow.trans (Grow.alloc _ _) (Grow.drew _)))).mono ?_; rintro e w5 ⟨⟨v5, rfl, o5⟩, g5⟩; have G5 := hid (Grow.trans (Grow.trans (Grow.alloc _ _) (Grow.drew _)) g5); have t0 := g5.cell (Grow.cell (Grow.trans (Grow.alloc _ _) (Grow.drew _)) q0); have t1 := g5.cell (Grow.cell (Grow.trans (Grow.alloc _ _) (Grow.drew _)) q1); have t2 := g5.cell (Grow.cell (Grow.trans (Grow.alloc _ _) (Grow.drew _)) r1); have t3 := g5.cell (Grow.cell (Grow.trans (Grow.alloc _ _) (Grow.drew _)) r2)
         have kk := g5.heap ((Grow.drew _).heap (heap_new W (.cells #[.int .i64 0, .slice none 0 0] 57)))
         rw [hsz] at kk
         have y0 : w5.cell? ⟨wr.heap.size + 1 + 1, 0, none⟩ = some (.int .i64 0) := (by rw [heap_cell kk]; rfl)
         have y1 : w5.cell? ⟨wr.heap.size + 1 + 1, 1, none⟩ = some (.slice none 0 0) := (by rw [heap_cell kk]; rfl)
         have y2 : w5.frozen? ⟨wr.heap.size + 1 + 1, 0, none⟩ = false := heap_frozen kk 0 (by omega)
         have y3 : w5.frozen? ⟨wr.heap.size + 1 + 1, 1, none⟩ = false := heap_frozen kk 1 (by omega)
         have KK := hid kk
         clear kk
         have OO := hid o5; obtain ⟨⟨bb, ho5⟩, hm5⟩ := o5; obtain ⟨A5, c5, rfl⟩ := own_form ho5; clear ho5 hm5)))
  all_goals clear HG
  all_goals
    have l5 := G5.out.heap B1.out
    have m5 := heap_lt l5
    have z0 : w5.cell? ⟨wr.heap.size + 1, 0, none⟩ = some (.int .i64 most) := by rw [heap_cell l5]; rfl
    have z1 : w5.cell? ⟨wr.heap.size + 1, 1, none⟩ = some (.slice A l.length c) := by rw [heap_cell l5]; rfl
    have z2 : w5.frozen? ⟨wr.heap.size + 1, 0, none⟩ = false := heap_frozen l5 0 (by omega)
    have z3 : w5.frozen? ⟨wr.heap.size + 1, 1, none⟩ = false := heap_frozen l5 1 (by omega)
    have m6 : wr.heap.size + 1 ≠ w5.heap.size := by omega
    have m7 : w5.heap.size ≠ wr.heap.size + 1 := by omega
    have m8 : wr.heap.size < w5.heap.size := by omega
    clear l5
    go_wp2_with fail
  all_goals first
    | (have k1 := G5.out.heap B1.out
       have G6 := hid (Grow.trans G2.out G5.out)
       have G7 := hid (show Grow wr ((((w5).setCell ⟨wr.heap.size + 1, 0, none⟩ (.int .i64 most)).setCell ⟨wr.heap.size + 1, 1, none⟩ (.slice A5 L.length c5)).alloc (.cells #[.int .i64 most, .slice A5 L.length c5] 57)) from Below.mono' (Below.setCell (Below.setCell G6.out (by show wr.heap.size ≤ wr.heap.size + 1; omega) _) (by show wr.heap.size ≤ wr.heap.size + 1; omega) _) (by simp; omega) _)
       have o7 := hid ((OO.out.set2 k1 (.int .i64 most) (.slice A5 L.length c5)).grow (Grow.alloc _ (.cells #[.int .i64 most, .slice A5 L.length c5] 57)))
       have HR7 := hid (G7.out.heap HR.out)
       have l1 := heap_alloc_keep (heap_set (heap_set k1 0 (.int .i64 most)) 1 (.slice A5 L.length c5)) (.cells #[.int .i64 most, .slice A5 L.length c5] 57)
       refine (HGET.out _ (HC.out.grow G7.out)).mono ?_
       rintro e w7 ⟨rfl, hbeh⟩
       have r7 := hbeh.keepT (HC.out.grow G7.out) HR7.out (by decide) (by decide)
       have l7 := hbeh.keepT (HC.out.grow G7.out) l1 (by decide) (by decide)
       have HF := hid (Both.fin2 HC.out ho hb hp hrb HR.out G7.out o7.out hbeh)
       clear hbeh)
    | (have k6 : ((w5.setCell ⟨wr.heap.size + 1 + 1, 0, none⟩ (.int .i64 most)).setCell ⟨wr.heap.size + 1 + 1, 1, none⟩ (.slice A5 L.length c5)).heap[wr.heap.size + 1 + 1]? = some (.cells #[.int .i64 most, .slice A5 L.length c5] 57 (0, 0)) := heap_set (heap_set KK.out 0 (.int .i64 most)) 1 (.slice A5 L.length c5)
       have G6 := hid (show Grow wr ((w5.setCell ⟨wr.heap.size + 1 + 1, 0, none⟩ (.int .i64 most)).setCell ⟨wr.heap.size + 1 + 1, 1, none⟩ (.slice A5 L.length c5)) from Below.setCell (Below.setCell (Grow.trans G2.out G5.out) (by show wr.heap.size ≤ wr.heap.size + 1 + 1; omega) _) (by show wr.heap.size ≤ wr.heap.size + 1 + 1; omega) _)
       have o6 := hid (OO.out.set2 KK.out (.int .i64 most) (.slice A5 L.length c5))
       have k1 := heap_keep (heap_keep (G5.out.heap B1.out) ⟨wr.heap.size + 1 + 1, 0, none⟩ (.int .i64 most) (by show wr.heap.size + 1 ≠ wr.heap.size + 1 + 1; omega)) ⟨wr.heap.size + 1 + 1, 1, none⟩ (.slice A5 L.length c5) (by show wr.heap.size + 1 ≠ wr.heap.size + 1 + 1; omega)
       have G7 := hid (show Grow wr ((((w5.setCell ⟨wr.heap.size + 1 + 1, 0, none⟩ (.int .i64 most)).setCell ⟨wr.heap.size + 1 + 1, 1, none⟩ (.slice A5 L.length c5)).setCell ⟨wr.heap.size + 1, 0, none⟩ (.int .i64 most)).setCell ⟨wr.heap.size + 1, 1, none⟩ (.slice A5 L.length c5)) from Below.setCell (Below.setCell G6.out (by show wr.heap.size ≤ wr.heap.size + 1; omega) _) (by show wr.heap.size ≤ wr.heap.size + 1; omega) _)
       have o7 := hid (o6.out.set2 k1 (.int .i64 most) (.slice A5 L.length c5))
       have HR7 := hid (G7.out.heap HR.out)
       have l1 := heap_set (heap_set k1 0 (.int .i64 most)) 1 (.slice A5 L.length c5)
       refine (HGET.out _ (HC.out.grow G7.out)).mono ?_
       rintro e w7 ⟨rfl, hbeh⟩
       have r7 := hbeh.keepT (HC.out.grow G7.out) HR7.out (by decide) (by decide)
       have l7 := hbeh.keepT (HC.out.grow G7.out) l1 (by decide) (by decide)
       have HF := hid (Both.fin2 HC.out ho hb hp hrb HR.out G7.out o7.out hbeh)
       clear hbeh)
  all_goals
    clear k1 B0 B1 z0 z1 z2 z3
    have v0 : w7.cell? ⟨wr.heap.size + 1, 0, none⟩ = some (.int .i64 most) := by rw [heap_cell l7]; rfl
    have v1 : w7.cell? ⟨wr.heap.size + 1, 1, none⟩ = some (.slice A5 L.length c5) := by rw [heap_cell l7]; rfl
    have u0 : w7.cell? ⟨rb, 0, none⟩ = some (.int .i64 most) := by rw [heap_cell r7]; rfl
    have u1 : w7.cell? ⟨rb, 1, none⟩ = some (.slice A l.length c) := by rw [heap_cell r7]; rfl
    have u2 : w7.frozen? ⟨rb, 0, none⟩ = false := heap_frozen r7 0 (by omega)
    have u3 : w7.frozen? ⟨rb, 1, none⟩ = false := heap_frozen r7 1 (by omega)
    have n8 : rb ≠ wr.heap.size + 1 := by omega
    have n9 : wr.heap.size + 1 ≠ rb := by omega
    clear r7 l7 l1 q0 q1 r1 r2 t0 t1 t2 t3
    go_wp2_with fail
    go_ret
    exact ⟨rfl, HF.out⟩
set_option maxRecDepth 100000 in
set_option maxHeartbeats 4000000 in
theorem does3_c (w wr : World) (p rb : Nat) (most : Int) (l : List CItem) (j : Nat) (k : Int) (s : ByteArray) (hB : Both w wr p rb most l) (hk : Keeps j most l) (hm : most ≤ 1024) (hm1 : 1 ≤ most) (hj : j ≤ 1000) :
    Calls Try.prog 22 #[.pointer (some ⟨p, 0, none⟩), .pointer (some ⟨rb, 0, none⟩), .agg #[.int .i64 3, .int .i64 k, .string s]] wr fun e w' => e = .returned (.bool true) ∧ Both w w' p rb most (unpinP l k).1 := by
  obtain ⟨v, v', hc, ho, hb, hp, hr, hro, hrb⟩ := hB
  obtain ⟨A, c, rfl, -, -, -⟩ := hro.items
  have HG := hid (fun (w' : World) (g : Grow wr w') => RUnpin_c j most _ l k w' (hro.grow g) hk hm hj)
  have HC := hid hc
  have HGET := hid (fun (w' : World) (h : CacheAt w' p most v l) => Unpin_c p most v l k w' h (by have := hk.len; omega) (fun x hx => by have := hk.pins x hx; omega))
  generalize (unpinP l k).1 = L at *
  generalize (unpinP l k).2 = ok at *
  have HR := hid hr
  have hlr := heap_lt hr
  have p0 : wr.cell? ⟨rb, 0, none⟩ = some (.int .i64 most) := by rw [heap_cell hr]; rfl
  have p1 : wr.cell? ⟨rb, 1, none⟩ = some (.slice A l.length c) := by rw [heap_cell hr]; rfl
  have p2 : wr.frozen? ⟨rb, 0, none⟩ = false := heap_frozen hr 0 (by omega)
  have p3 : wr.frozen? ⟨rb, 1, none⟩ = false := heap_frozen hr 1 (by omega)
  clear hro hr hc hk
  go_enter Try.func22, Try.ntmps22
  go_wp2_with fail
  have b0 := heap_alloc_keep (heap_new wr (.cells #[.int .i64 3, .int .i64 k, .string s] 37)) (.cells #[.int .i64 most, .slice A l.length c] 57)
  have b1 := heap_newAt (g := wr.heap.size + 1) (wr.alloc (.cells #[.int .i64 3, .int .i64 k, .string s] 37)) (.cells #[.int .i64 most, .slice A l.length c] 57) (by simp)
  have g2 := Grow.trans (Grow.alloc wr (.cells #[.int .i64 3, .int .i64 k, .string s] 37)) (Grow.alloc _ (.cells #[.int .i64 most, .slice A l.length c] 57))
  have hsz : ((wr.alloc (.cells #[.int .i64 3, .int .i64 k, .string s] 37)).alloc (.cells #[.int .i64 most, .slice A l.length c] 57)).heap.size = wr.heap.size + 1 + 1 := by simp
  generalize (wr.alloc (.cells #[.int .i64 3, .int .i64 k, .string s] 37)).alloc (.cells #[.int .i64 most, .slice A l.length c] 57) = W at *
  have G2 := hid g2
  have q0 := G2.out.cell p0
  have q1 := G2.out.cell p1
  have r1 : W.cell? ⟨wr.heap.size, 1, none⟩ = some (.int .i64 k) := by rw [heap_cell b0]; rfl
  have r2 : W.cell? ⟨wr.heap.size, 2, none⟩ = some (.string s) := by rw [heap_cell b0]; rfl
  have B0 := hid b0
  have B1 := hid b1
  clear b0 b1 g2 p0 p1 p2 p3
  have n2 : rb ≠ wr.heap.size + 1 + 1 := by omega
  have n3 : wr.heap.size + 1 + 1 ≠ rb := by omega
  have n6 : wr.heap.size ≠ wr.heap.size + 1 + 1 := by omega
  have n7 : wr.heap.size + 1 + 1 ≠ wr.heap.size := by omega
  have hlW := heap_lt B1.out
  go_region_held3 (fun w' => w'.cell? ⟨rb, 0, none⟩ = some (.int .i64 most) ∧ w'.cell? ⟨rb, 1, none⟩ = some (.slice A l.length c) ∧ w'.cell? ⟨wr.heap.size, 1, none⟩ = some (.int .i64 k) ∧ w'.cell? ⟨wr.heap.size, 2, none⟩ = some (.string s)) (go_keep)
    ((go_at_call 37; first
      | (refine (HG.out _ (Grow.trans G2.out (Grow.drew _))).mono ?_; rintro e w5 ⟨⟨v5, rfl, o5⟩, g5⟩; have G5 := hid (Grow.trans (Grow.drew _) g5); have t0 := g5.cell q0; have t1 := g5.cell q1; have t2 := g5.cell r1; have t3 := g5.cell r2; have OO := hid o5; obtain ⟨⟨bb, ho5⟩, hm5⟩ := o5; obtain ⟨A5, c5, rfl⟩ := own_form ho5; have g5s := G5.out.size; have n0 : rb ≠ w5.heap.size := (by omega); have n1 : wr.heap.size ≠ w5.heap.size := (by omega); have n4 : w5.heap.size ≠ rb := (by omega); have n5 : w5.heap.size ≠ wr.heap.size := (by omega); clear ho5 hm5)
      | (refine (HG.out _ (Grow.trans G2.out (Grow.trans (Grow.alloc _ _) (Grow.drew _)))).mono ?_; rintro e w5 ⟨⟨v5, rfl, o5⟩, g5⟩; have G5 := hid (Grow.trans (Grow.trans (Grow.alloc _ _) (Grow.drew _)) g5); have t0 := g5.cell (Grow.cell (Grow.trans (Grow.alloc _ _) (Grow.drew _)) q0); have t1 := g5.cell (Grow.cell (Grow.trans (Grow.alloc _ _) (Grow.drew _)) q1); have t2 := g5.cell (Grow.cell (Grow.trans (Grow.alloc _ _) (Grow.drew _)) r1); have t3 := g5.cell (Grow.cell (Grow.trans (Grow.alloc _ _) (Grow.drew _)) r2)
         have kk := g5.heap ((Grow.drew _).heap (heap_new W (.cells #[.int .i64 0, .slice none 0 0] 57)))
         rw [hsz] at kk
         have y0 : w5.cell? ⟨wr.heap.size + 1 + 1, 0, none⟩ = some (.int .i64 0) := (by rw [heap_cell kk]; rfl)
         have y1 : w5.cell? ⟨wr.heap.size + 1 + 1, 1, none⟩ = some (.slice none 0 0) := (by rw [heap_cell kk]; rfl)
         have y2 : w5.frozen? ⟨wr.heap.size + 1 + 1, 0, none⟩ = false := heap_frozen kk 0 (by omega)
         have y3 : w5.frozen? ⟨wr.heap.size + 1 + 1, 1, none⟩ = false := heap_frozen kk 1 (by omega)
         have KK := hid kk
         clear kk
         have OO := hid o5; obtain ⟨⟨bb, ho5⟩, hm5⟩ := o5; obtain ⟨A5, c5, rfl⟩ := own_form ho5; clear ho5 hm5)))
  all_goals clear HG
  all_goals
    have l5 := G5.out.heap B1.out
    have m5 := heap_lt l5
    have z0 : w5.cell? ⟨wr.heap.size + 1, 0, none⟩ = some (.int .i64 most) := by rw [heap_cell l5]; rfl
    have z1 : w5.cell? ⟨wr.heap.size + 1, 1, none⟩ = some (.slice A l.length c) := by rw [heap_cell l5]; rfl
    have z2 : w5.frozen? ⟨wr.heap.size + 1, 0, none⟩ = false := heap_frozen l5 0 (by omega)
    have z3 : w5.frozen? ⟨wr.heap.size + 1, 1, none⟩ = false := heap_frozen l5 1 (by omega)
    have m6 : wr.heap.size + 1 ≠ w5.heap.size := by omega
    have m7 : w5.heap.size ≠ wr.heap.size + 1 := by omega
    have m8 : wr.heap.size < w5.heap.size := by omega
    clear l5
    go_wp2_with fail
  all_goals first
    | (have k1 := G5.out.heap B1.out
       have G6 := hid (Grow.trans G2.out G5.out)
       have G7 := hid (show Grow wr ((((w5).setCell ⟨wr.heap.size + 1, 0, none⟩ (.int .i64 most)).setCell ⟨wr.heap.size + 1, 1, none⟩ (.slice A5 L.length c5)).alloc (.cells #[.int .i64 most, .slice A5 L.length c5] 57)) from Below.mono' (Below.setCell (Below.setCell G6.out (by show wr.heap.size ≤ wr.heap.size + 1; omega) _) (by show wr.heap.size ≤ wr.heap.size + 1; omega) _) (by simp; omega) _)
       have o7 := hid ((OO.out.set2 k1 (.int .i64 most) (.slice A5 L.length c5)).grow (Grow.alloc _ (.cells #[.int .i64 most, .slice A5 L.length c5] 57)))
       have HR7 := hid (G7.out.heap HR.out)
       have l1 := heap_alloc_keep (heap_set (heap_set k1 0 (.int .i64 most)) 1 (.slice A5 L.length c5)) (.cells #[.int .i64 most, .slice A5 L.length c5] 57)
       refine (HGET.out _ (HC.out.grow G7.out)).mono ?_
       rintro e w7 ⟨rfl, hbeh⟩
       have r7 := hbeh.keepT (HC.out.grow G7.out) HR7.out (by decide) (by decide)
       have l7 := hbeh.keepT (HC.out.grow G7.out) l1 (by decide) (by decide)
       have HF := hid (Both.fin2 HC.out ho hb hp hrb HR.out G7.out o7.out hbeh)
       clear hbeh)
    | (have k6 : ((w5.setCell ⟨wr.heap.size + 1 + 1, 0, none⟩ (.int .i64 most)).setCell ⟨wr.heap.size + 1 + 1, 1, none⟩ (.slice A5 L.length c5)).heap[wr.heap.size + 1 + 1]? = some (.cells #[.int .i64 most, .slice A5 L.length c5] 57 (0, 0)) := heap_set (heap_set KK.out 0 (.int .i64 most)) 1 (.slice A5 L.length c5)
       have G6 := hid (show Grow wr ((w5.setCell ⟨wr.heap.size + 1 + 1, 0, none⟩ (.int .i64 most)).setCell ⟨wr.heap.size + 1 + 1, 1, none⟩ (.slice A5 L.length c5)) from Below.setCell (Below.setCell (Grow.trans G2.out G5.out) (by show wr.heap.size ≤ wr.heap.size + 1 + 1; omega) _) (by show wr.heap.size ≤ wr.heap.size + 1 + 1; omega) _)
       have o6 := hid (OO.out.set2 KK.out (.int .i64 most) (.slice A5 L.length c5))
       have k1 := heap_keep (heap_keep (G5.out.heap B1.out) ⟨wr.heap.size + 1 + 1, 0, none⟩ (.int .i64 most) (by show wr.heap.size + 1 ≠ wr.heap.size + 1 + 1; omega)) ⟨wr.heap.size + 1 + 1, 1, none⟩ (.slice A5 L.length c5) (by show wr.heap.size + 1 ≠ wr.heap.size + 1 + 1; omega)
       have G7 := hid (show Grow wr ((((w5.setCell ⟨wr.heap.size + 1 + 1, 0, none⟩ (.int .i64 most)).setCell ⟨wr.heap.size + 1 + 1, 1, none⟩ (.slice A5 L.length c5)).setCell ⟨wr.heap.size + 1, 0, none⟩ (.int .i64 most)).setCell ⟨wr.heap.size + 1, 1, none⟩ (.slice A5 L.length c5)) from Below.setCell (Below.setCell G6.out (by show wr.heap.size ≤ wr.heap.size + 1; omega) _) (by show wr.heap.size ≤ wr.heap.size + 1; omega) _)
       have o7 := hid (o6.out.set2 k1 (.int .i64 most) (.slice A5 L.length c5))
       have HR7 := hid (G7.out.heap HR.out)
       have l1 := heap_set (heap_set k1 0 (.int .i64 most)) 1 (.slice A5 L.length c5)
       refine (HGET.out _ (HC.out.grow G7.out)).mono ?_
       rintro e w7 ⟨rfl, hbeh⟩
       have r7 := hbeh.keepT (HC.out.grow G7.out) HR7.out (by decide) (by decide)
       have l7 := hbeh.keepT (HC.out.grow G7.out) l1 (by decide) (by decide)
       have HF := hid (Both.fin2 HC.out ho hb hp hrb HR.out G7.out o7.out hbeh)
       clear hbeh)
  all_goals
    clear k1 B0 B1 z0 z1 z2 z3
    have v0 : w7.cell? ⟨wr.heap.size + 1, 0, none⟩ = some (.int .i64 most) := by rw [heap_cell l7]; rfl
    have v1 : w7.cell? ⟨wr.heap.size + 1, 1, none⟩ = some (.slice A5 L.length c5) := by rw [heap_cell l7]; rfl
    have u0 : w7.cell? ⟨rb, 0, none⟩ = some (.int .i64 most) := by rw [heap_cell r7]; rfl
    have u1 : w7.cell? ⟨rb, 1, none⟩ = some (.slice A l.length c) := by rw [heap_cell r7]; rfl
    have u2 : w7.frozen? ⟨rb, 0, none⟩ = false := heap_frozen r7 0 (by omega)
    have u3 : w7.frozen? ⟨rb, 1, none⟩ = false := heap_frozen r7 1 (by omega)
    have n8 : rb ≠ wr.heap.size + 1 := by omega
    have n9 : wr.heap.size + 1 ≠ rb := by omega
    clear r7 l7 l1 q0 q1 r1 r2 t0 t1 t2 t3
    go_wp2_with fail
    go_ret
    exact ⟨rfl, HF.out⟩
set_option maxRecDepth 100000 in
set_option maxHeartbeats 4000000 in
theorem does4_c (w wr : World) (p rb : Nat) (most : Int) (l : List CItem) (j : Nat) (kind k : Int) (s : ByteArray) (hB : Both w wr p rb most l) (hk : Keeps j most l) (hm : most ≤ 1024) (hm1 : 1 ≤ most) (h0 : kind ≠ 0) (h1 : kind ≠ 1) (h2 : kind ≠ 2) (h3 : kind ≠ 3) :
    Calls Try.prog 22 #[.pointer (some ⟨p, 0, none⟩), .pointer (some ⟨rb, 0, none⟩), .agg #[.int .i64 kind, .int .i64 k, .string s]] wr fun e w' => e = .returned (.bool true) ∧ Both w w' p rb most (dropP l k).1 := by
  have e0 : (kind == 0) = false := by simpa using h0
  have e1 : (kind == 1) = false := by simpa using h1
  have e2 : (kind == 2) = false := by simpa using h2
  have e3 : (kind == 3) = false := by simpa using h3
  clear h0 h1 h2 h3
  obtain ⟨v, v', hc, ho, hb, hp, hr, hro, hrb⟩ := hB
  obtain ⟨A, c, rfl, -, -, -⟩ := hro.items
  have HFI := hid (fun (w' : World) (g : Grow wr w') => RFindP_c most _ l k w' (hro.grow g))
  have HG := hid (fun (w' : World) (g : Grow wr w') => RDropP_c j most _ l k w' (hro.grow g) hk)
  have HC := hid hc
  have HGET := hid (fun (w' : World) (h : CacheAt w' p most v l) => Drop_c p most v l k w' h (by have := hk.len; omega))
  generalize (dropP l k).1 = L at *
  generalize (dropP l k).2 = ok at *
  have HR := hid hr
  have hlr := heap_lt hr
  have p0 : wr.cell? ⟨rb, 0, none⟩ = some (.int .i64 most) := by rw [heap_cell hr]; rfl
  have p1 : wr.cell? ⟨rb, 1, none⟩ = some (.slice A l.length c) := by rw [heap_cell hr]; rfl
  have p2 : wr.frozen? ⟨rb, 0, none⟩ = false := heap_frozen hr 0 (by omega)
  have p3 : wr.frozen? ⟨rb, 1, none⟩ = false := heap_frozen hr 1 (by omega)
  clear hro hr hc hk
  go_enter Try.func22, Try.ntmps22
  go_wp2_with fail
  have b0 := heap_alloc_keep (heap_new wr (.cells #[.int .i64 kind, .int .i64 k, .string s] 37)) (.cells #[.int .i64 most, .slice A l.length c] 57)
  have b1 := heap_newAt (g := wr.heap.size + 1) (wr.alloc (.cells #[.int .i64 kind, .int .i64 k, .string s] 37)) (.cells #[.int .i64 most, .slice A l.length c] 57) (by simp)
  have g2 := Grow.trans (Grow.alloc wr (.cells #[.int .i64 kind, .int .i64 k, .string s] 37)) (Grow.alloc _ (.cells #[.int .i64 most, .slice A l.length c] 57))
  have hsz : ((wr.alloc (.cells #[.int .i64 kind, .int .i64 k, .string s] 37)).alloc (.cells #[.int .i64 most, .slice A l.length c] 57)).heap.size = wr.heap.size + 1 + 1 := by simp
  generalize (wr.alloc (.cells #[.int .i64 kind, .int .i64 k, .string s] 37)).alloc (.cells #[.int .i64 most, .slice A l.length c] 57) = W at *
  have G2 := hid g2
  have q0 := G2.out.cell p0
  have q1 := G2.out.cell p1
  have r1 : W.cell? ⟨wr.heap.size, 1, none⟩ = some (.int .i64 k) := by rw [heap_cell b0]; rfl
  have B0 := hid b0
  have B1 := hid b1
  clear b0 b1 g2 p0 p1 p2 p3
  have n2 : rb ≠ wr.heap.size + 1 + 1 := by omega
  have n3 : wr.heap.size + 1 + 1 ≠ rb := by omega
  have n6 : wr.heap.size ≠ wr.heap.size + 1 + 1 := by omega
  have n7 : wr.heap.size + 1 + 1 ≠ wr.heap.size := by omega
  have hlW := heap_lt B1.out
  go_region_held3 (fun w' => w'.cell? ⟨rb, 0, none⟩ = some (.int .i64 most) ∧ w'.cell? ⟨rb, 1, none⟩ = some (.slice A l.length c) ∧ w'.cell? ⟨wr.heap.size, 1, none⟩ = some (.int .i64 k)) (go_keep)
    ((go_at_call 38; first
      | (refine (HFI.out _ (Grow.trans G2.out (Grow.drew _))).mono ?_; rintro e w5 ⟨⟨fa, fb, fc, rfl⟩, g5⟩; have G5 := hid (Grow.trans (Grow.drew _) g5); have t0 := g5.cell q0; have t1 := g5.cell q1; have t2 := g5.cell r1; have g5s := G5.out.size; have n0 : rb ≠ w5.heap.size := (by omega); have n1 : wr.heap.size ≠ w5.heap.size := (by omega); have n4 : w5.heap.size ≠ rb := (by omega); have n5 : w5.heap.size ≠ wr.heap.size := (by omega))
      | (refine (HFI.out _ (Grow.trans G2.out (Grow.trans (Grow.alloc _ _) (Grow.drew _)))).mono ?_; rintro e w5 ⟨⟨fa, fb, fc, rfl⟩, g5⟩; have G5 := hid (Grow.trans (Grow.trans (Grow.alloc _ _) (Grow.drew _)) g5); have t0 := g5.cell (Grow.cell (Grow.trans (Grow.alloc _ _) (Grow.drew _)) q0); have t1 := g5.cell (Grow.cell (Grow.trans (Grow.alloc _ _) (Grow.drew _)) q1); have t2 := g5.cell (Grow.cell (Grow.trans (Grow.alloc _ _) (Grow.drew _)) r1)
         have kk := g5.heap ((Grow.drew _).heap (heap_new W (.cells #[.int .i64 0, .string ByteArray.empty, .int .i64 0] 53)))
         rw [hsz] at kk
         have y0 : w5.cell? ⟨wr.heap.size + 1 + 1, 0, none⟩ = some (.int .i64 0) := (by rw [heap_cell kk]; rfl)
         have y1 : w5.cell? ⟨wr.heap.size + 1 + 1, 1, none⟩ = some (.string ByteArray.empty) := (by rw [heap_cell kk]; rfl)
         have y4 : w5.cell? ⟨wr.heap.size + 1 + 1, 2, none⟩ = some (.int .i64 0) := (by rw [heap_cell kk]; rfl)
         have y2 : w5.frozen? ⟨wr.heap.size + 1 + 1, 0, none⟩ = false := heap_frozen kk 0 (by omega)
         have y3 : w5.frozen? ⟨wr.heap.size + 1 + 1, 1, none⟩ = false := heap_frozen kk 1 (by omega)
         have y5 : w5.frozen? ⟨wr.heap.size + 1 + 1, 2, none⟩ = false := heap_frozen kk 2 (by omega)
         clear kk)))
  all_goals
    clear q0 q1 r1 HFI
    go_wp2_with fail
  all_goals first
    | (have yy := y5; clear yy
       have G6 := hid (show Grow wr (((w5.setCell ⟨wr.heap.size + 1 + 1, 0, none⟩ (.int .i64 fa)).setCell ⟨wr.heap.size + 1 + 1, 1, none⟩ (.string fb)).setCell ⟨wr.heap.size + 1 + 1, 2, none⟩ (.int .i64 fc)) from Below.setCell (Below.setCell (Below.setCell (Grow.trans G2.out G5.out) (by show wr.heap.size ≤ wr.heap.size + 1 + 1; omega) _) (by show wr.heap.size ≤ wr.heap.size + 1 + 1; omega) _) (by show wr.heap.size ≤ wr.heap.size + 1 + 1; omega) _)
       have GA := hid (show Grow W (((w5.setCell ⟨wr.heap.size + 1 + 1, 0, none⟩ (.int .i64 fa)).setCell ⟨wr.heap.size + 1 + 1, 1, none⟩ (.string fb)).setCell ⟨wr.heap.size + 1 + 1, 2, none⟩ (.int .i64 fc)) from Below.setCell (Below.setCell (Below.setCell G5.out (by show W.heap.size ≤ wr.heap.size + 1 + 1; omega) _) (by show W.heap.size ≤ wr.heap.size + 1 + 1; omega) _) (by show W.heap.size ≤ wr.heap.size + 1 + 1; omega) _))
    | (have G6 := hid (Grow.trans G2.out (Grow.trans G5.out (Grow.alloc w5 (.cells #[.int .i64 fa, .string fb, .int .i64 fc] 53))))
       have GA := hid (Grow.trans G5.out (Grow.alloc w5 (.cells #[.int .i64 fa, .string fb, .int .i64 fc] 53))))
  all_goals
    have m8 : wr.heap.size < w5.heap.size := by have := G5.out.size; omega
    have n8 : rb ≠ wr.heap.size + 1 := by omega
    have n9 : wr.heap.size + 1 ≠ rb := by omega
    go_region_held3 (fun w' => w'.cell? ⟨rb, 0, none⟩ = some (.int .i64 most) ∧ w'.cell? ⟨rb, 1, none⟩ = some (.slice A l.length c) ∧ w'.cell? ⟨wr.heap.size, 1, none⟩ = some (.int .i64 k)) (go_keep)
      ((go_at_call 39; refine (HG.out _ (Grow.trans G6.out (Grow.drew _))).mono ?_; rintro e w8 ⟨⟨v8, rfl, o8⟩, g8⟩
        have G8 := hid (Grow.trans G6.out (Grow.trans (Grow.drew _) g8))
        have k1 := g8.heap ((Grow.drew _).heap (GA.out.heap B1.out))
        have k0 := g8.heap ((Grow.drew _).heap (GA.out.heap B0.out))
        have kr := G8.out.heap HR.out
        have z0 : w8.cell? ⟨wr.heap.size + 1, 0, none⟩ = some (.int .i64 most) := (by rw [heap_cell k1]; rfl)
        have z1 : w8.cell? ⟨wr.heap.size + 1, 1, none⟩ = some (.slice A l.length c) := (by rw [heap_cell k1]; rfl)
        have z2 : w8.frozen? ⟨wr.heap.size + 1, 0, none⟩ = false := heap_frozen k1 0 (by omega)
        have z3 : w8.frozen? ⟨wr.heap.size + 1, 1, none⟩ = false := heap_frozen k1 1 (by omega)
        have z4 : w8.cell? ⟨wr.heap.size, 1, none⟩ = some (.int .i64 k) := (by rw [heap_cell k0]; rfl)
        have z5 : w8.cell? ⟨rb, 0, none⟩ = some (.int .i64 most) := (by rw [heap_cell kr]; rfl)
        have z6 : w8.cell? ⟨rb, 1, none⟩ = some (.slice A l.length c) := (by rw [heap_cell kr]; rfl)
        have hl8 := heap_lt k1
        have K1 := hid k1
        clear k1 k0 kr
        have OO := hid o8; obtain ⟨⟨bb, ho8⟩, hm8⟩ := o8; obtain ⟨A5, c5, rfl⟩ := own_form ho8; clear ho8 hm8))
    go_wp2_with fail
    have G7 := hid (show Grow wr ((w8.setCell ⟨wr.heap.size + 1, 0, none⟩ (.int .i64 most)).setCell ⟨wr.heap.size + 1, 1, none⟩ (.slice A5 L.length c5)) from Below.setCell (Below.setCell G8.out (by show wr.heap.size ≤ wr.heap.size + 1; omega) _) (by show wr.heap.size ≤ wr.heap.size + 1; omega) _)
    have o7 := hid (OO.out.set2 K1.out (.int .i64 most) (.slice A5 L.length c5))
    have l1 := heap_set (heap_set K1.out 0 (.int .i64 most)) 1 (.slice A5 L.length c5)
    refine (HGET.out _ (HC.out.grow G7.out)).mono ?_
    rintro e w7 ⟨rfl, hbeh⟩
    have r7 := hbeh.keepT (HC.out.grow G7.out) (G7.out.heap HR.out) (by decide) (by decide)
    have l7 := hbeh.keepT (HC.out.grow G7.out) l1 (by decide) (by decide)
    have HF := hid (Both.fin2 HC.out ho hb hp hrb HR.out G7.out o7.out hbeh)
    have v0 : w7.cell? ⟨wr.heap.size + 1, 0, none⟩ = some (.int .i64 most) := by rw [heap_cell l7]; rfl
    have v1 : w7.cell? ⟨wr.heap.size + 1, 1, none⟩ = some (.slice A5 L.length c5) := by rw [heap_cell l7]; rfl
    have u0 : w7.cell? ⟨rb, 0, none⟩ = some (.int .i64 most) := by rw [heap_cell r7]; rfl
    have u1 : w7.cell? ⟨rb, 1, none⟩ = some (.slice A l.length c) := by rw [heap_cell r7]; rfl
    have u2 : w7.frozen? ⟨rb, 0, none⟩ = false := heap_frozen r7 0 (by omega)
    have u3 : w7.frozen? ⟨rb, 1, none⟩ = false := heap_frozen r7 1 (by omega)
    clear hbeh r7 l7 l1
    go_wp2_with fail
    go_ret
    exact ⟨rfl, HF.out⟩
--KINDSEND
end Go.Proofs.Ytjccfodadiaokaa
