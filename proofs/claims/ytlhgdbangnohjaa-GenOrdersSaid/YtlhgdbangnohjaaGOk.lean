/- What holds of all there is as a history is made. -/
import Derived.Test.YtlhgdbangnohjaaGInv
namespace Go.Proofs.Ytlhgdbangnohjaa
open Go.RowKit
set_option linter.unusedVariables false
set_option linter.unusedSimpArgs false
structure GOk (c : GenC) (G : GenW) (k : Nat) : Prop where
  freeN : G.free.length = c.procs.toNat
  goneN : G.gone.length = c.procs.toNat
  stN : G.states.length = c.objects.toNat
  now : 0 ≤ G.now ∧ G.now ≤ 20 * (k : Int)
  free : ∀ p, 0 ≤ G.free.getD p 0 ∧ G.free.getD p 0 ≤ 20 * (k : Int)
  st : ∀ i, i < c.objects.toNat → StOk ((i : Int) % 6 + 1) c.procs k (G.states.getD i [])
  len : G.l.length ≤ k
theorem GOk.mono {c : GenC} {G : GenW} {k m : Nat} (h : GOk c G k) (hm : k ≤ m) : GOk c G m where
  freeN := h.freeN
  goneN := h.goneN
  stN := h.stN
  now := ⟨h.now.1, by have := h.now.2; omega⟩
  free := fun p => ⟨(h.free p).1, by have := (h.free p).2; omega⟩
  st := fun i hi => (h.st i hi).mono hm
  len := Nat.le_trans h.len hm
theorem GOk.x {c : GenC} {G : GenW} {k : Nat} (h : GOk c G k) (x : Int) : GOk c { G with x := x } k := ⟨h.freeN, h.goneN, h.stN, h.now, h.free, h.st, h.len⟩
theorem imax_le {a b m : Int} (h1 : a ≤ m) (h2 : b ≤ m) : imax a b ≤ m := by unfold imax; split <;> omega
theorem le_imax {a b m : Int} (h1 : m ≤ a) : m ≤ imax a b := by unfold imax; split <;> omega
theorem getD_set (l : List Int) (i p : Nat) (x : Int) : (l.set i x).getD p 0 = x ∨ (l.set i x).getD p 0 = l.getD p 0 := by
  rw [List.getD_eq_getElem?_getD, List.getElem?_set, List.getD_eq_getElem?_getD]
  by_cases e : i = p
  · subst e
    rw [if_pos rfl]
    split
    · exact .inl rfl
    · right
      rename_i hn
      rw [List.getElem?_eq_none (by omega)]
  · rw [if_neg e]; exact .inr rfl
theorem getD_setL (l : List (List Int)) (i p : Nat) (x : List Int) : (l.set i x).getD p [] = if p = i ∧ i < l.length then x else l.getD p [] := by
  rw [List.getD_eq_getElem?_getD, List.getElem?_set, List.getD_eq_getElem?_getD]
  by_cases e : i = p
  · subst e
    rw [if_pos rfl]
    by_cases h : i < l.length
    · rw [if_pos h, if_pos ⟨rfl, h⟩]; rfl
    · rw [if_neg h, if_neg (fun e => h e.2), List.getElem?_eq_none (by omega)]
  · rw [if_neg e, if_neg (fun e2 => e e2.1.symm)]
/-- The times of an operation. -/
def pointV (G : GenW) (o : OpR) : Int := imax G.now (G.free.getD o.proc.toNat 0) + 1 + belowV G.x 4
theorem point_ok {c : GenC} {G : GenW} {k : Nat} (h : GOk c G k) (o : OpR) : 1 ≤ pointV G o ∧ pointV G o ≤ 20 * (k : Int) + 4 := by
  have h1 := h.now
  have h2 := h.free o.proc.toNat
  have h3 := belowV_lo (x := G.x) (n := 4) (by decide)
  have h4 := belowV_hi (x := G.x) (n := 4) (by decide)
  have h5 := imax_le h1.2 h2.2
  have h6 := le_imax (b := G.free.getD o.proc.toNat 0) h1.1
  unfold pointV
  omega
theorem place_ok {c : GenC} {G : GenW} {k : Nat} (hk : k ≤ 1000) (h : GOk c G k) (o : OpR) (n : Nat) (ha : AskOk c.procs o) (hn : o.obj = (n : Int)) (hn2 : n < c.objects.toNat) (hkd : o.kind = (n : Int) % 6 + 1) : GOk c (placeG c G o) (k + 1) := by
  obtain ⟨p1, p2⟩ := point_ok h o
  unfold placeG
  dsimp only
  rw [hn, Int.toNat_natCast]
  have hpt : imax G.now (G.free.getD o.proc.toNat 0) + 1 + belowV G.x 4 = pointV G o := rfl
  rw [hpt]
  generalize imax (G.free.getD o.proc.toNat 0 + 1) (pointV G o - belowV (nxt G.x) 8) = inv
  generalize pointV G o = pt at *
  have hst := h.st n hn2
  have hd := fun hh => doL_ok (o := { o with inv := inv }) hk (by dsimp only; rw [hkd]; exact hst) ⟨ha.arg, ha.sec, ha.proc⟩ hh
  dsimp only at hd
  simp only [hkd, hn] at hd
  rw [hkd]
  have hb8 := belowV_lo (x := nxt (nxt (nxt G.x))) (n := 8) (by decide)
  have hb8' := belowV_hi (x := nxt (nxt (nxt G.x))) (n := 8) (by decide)
  have hst2 : ∀ (xs : List Int), StOk ((n : Int) % 6 + 1) c.procs (k + 1) xs → ∀ i, i < c.objects.toNat → StOk ((i : Int) % 6 + 1) c.procs (k + 1) ((G.states.set n xs).getD i []) := fun xs hx i hi => by
    rw [getD_setL]
    split
    · rename_i e
      rw [e.1]
      exact hx
    · exact (h.st i hi).mono (by omega)
  split
  · exact ⟨h.freeN, h.goneN, h.stN, ⟨by dsimp only; omega, by dsimp only; omega⟩, (h.mono (show k ≤ k + 1 by omega)).free, (h.mono (show k ≤ k + 1 by omega)).st, by have := h.len; dsimp only; omega⟩
  · rename_i hok
    have hok2 := hd (by simpa using hok)
    split
    · refine ⟨h.freeN, by dsimp only; rw [List.length_set]; exact h.goneN, by dsimp only; rw [List.length_set]; exact h.stN, ⟨by dsimp only; omega, by dsimp only; omega⟩, (h.mono (show k ≤ k + 1 by omega)).free, hst2 _ hok2.1, ?_⟩
      have := h.len
      simp
      omega
    · refine ⟨by dsimp only; rw [List.length_set]; exact h.freeN, h.goneN, by dsimp only; rw [List.length_set]; exact h.stN, ⟨by dsimp only; omega, by dsimp only; omega⟩, fun p => ?_, hst2 _ hok2.1, ?_⟩
      · dsimp only
        rcases getD_set G.free o.proc.toNat p (pt + 1 + belowV (nxt (nxt (nxt G.x))) 8) with e | e
        · rw [e]; omega
        · rw [e]
          have := h.free p
          omega
      · have := h.len
        simp
        omega
end Go.Proofs.Ytlhgdbangnohjaa
