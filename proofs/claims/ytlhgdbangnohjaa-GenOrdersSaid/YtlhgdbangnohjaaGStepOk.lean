/- One step keeps what holds of all there is. -/
import Derived.Test.YtlhgdbangnohjaaGOk
namespace Go.Proofs.Ytlhgdbangnohjaa
open Go.RowKit
set_option linter.unusedVariables false
set_option linter.unusedSimpArgs false
theorem chooseL_lt {gone : List Bool} {P f : Nat} (hP : 0 < P) : ∀ (n i : Nat) (p : Nat), chooseL gone P f n i = some p → p < P ∧ gone.getD p false = false
  | 0, i, p, h => by simp [chooseL] at h
  | n + 1, i, p, h => by
    unfold chooseL at h
    split at h
    · rename_i e
      have e2 : (f + i) % P = p := Option.some.inj h
      rw [e2] at e
      exact ⟨by rw [← e2]; exact Nat.mod_lt _ hP, e⟩
    · exact chooseL_lt hP n (i + 1) p h
theorem ask_ok {procs : Int} (x id p object : Int) (hp : 0 ≤ p ∧ p < procs) : AskOk procs (askL x id p object).2 ∧ (askL x id p object).2.obj = object ∧ (askL x id p object).2.kind = object % 6 + 1 ∧ (askL x id p object).2.id = id ∧ (askL x id p object).2.proc = p := by
  have b1 := belowV_lo (x := nxt x) (n := 4) (by decide)
  have b2 := belowV_hi (x := nxt x) (n := 4) (by decide)
  have b3 := belowV_lo (x := nxt (nxt x)) (n := 4) (by decide)
  have b4 := belowV_hi (x := nxt (nxt x)) (n := 4) (by decide)
  unfold askL
  dsimp only
  split
  · exact ⟨⟨⟨by dsimp only; omega, by dsimp only; omega⟩, ⟨by dsimp only; omega, by dsimp only; omega⟩, hp⟩, rfl, rfl, rfl, rfl⟩
  · split
    · exact ⟨⟨⟨by dsimp only; omega, by dsimp only; omega⟩, ⟨by dsimp only; omega, by dsimp only; omega⟩, hp⟩, rfl, rfl, rfl, rfl⟩
    · exact ⟨⟨⟨by dsimp only; omega, by dsimp only; omega⟩, ⟨by dsimp only; omega, by dsimp only; omega⟩, hp⟩, rfl, rfl, rfl, rfl⟩
theorem turn_ok {c : GenC} {G : GenW} {k : Nat} (h : GOk c G k) (o q : OpR) (n : Nat) (ha : AskOk c.procs o) (hn : o.obj = (n : Int)) (hn2 : n < c.objects.toNat) (hkd : o.kind = (n : Int) % 6 + 1) (hq : turnL G o = some q) :
    AskOk c.procs q ∧ q.obj = (n : Int) ∧ q.kind = (n : Int) % 6 + 1 ∧ q.id = o.id := by
  unfold turnL at hq
  rw [hn, Int.toNat_natCast] at hq
  by_cases h6 : o.kind = 6
  · rw [if_pos h6] at hq
    have hm := (h.st n hn2).lock (by omega)
    generalize G.states.getD n [] = xs at *
    rcases hm with rfl | ⟨p, rfl, p1, p2⟩
    · dsimp only at hq
      cases hq
      exact ⟨⟨ha.arg, ha.sec, ha.proc⟩, by first | rfl | exact hn, hkd, rfl⟩
    · dsimp only at hq
      split at hq
      · cases hq
      · cases hq
        exact ⟨⟨ha.arg, ha.sec, ⟨p1, p2⟩⟩, by first | rfl | exact hn, hkd, rfl⟩
  · rw [if_neg h6] at hq
    cases hq
    exact ⟨ha, hn, hkd, rfl⟩
theorem stepG_none {c : GenC} {G : GenW} {id : Int} (h : chooseL G.gone c.procs.toNat (belowV G.x c.procs).toNat c.procs.toNat 0 = none) : stepG c G id = { G with x := nxt G.x } := congrArg (stepB c G id) h
theorem stepG_some {c : GenC} {G : GenW} {id : Int} {p : Nat} {r : Int × OpR} (h : chooseL G.gone c.procs.toNat (belowV G.x c.procs).toNat c.procs.toNat 0 = some p) (ha : askL (nxt (nxt G.x)) id p (belowV (nxt G.x) c.objects) = r) :
    stepG c G id = stepA c G r.1 (turnL G r.2) := (congrArg (stepB c G id) h).trans (congrArg (fun r : Int × OpR => stepA c G r.1 (turnL G r.2)) ha)
theorem step_ok {c : GenC} {G : GenW} {k : Nat} (hc : c.good) (hk : k ≤ 1000) (h : GOk c G k) (id : Int) : GOk c (stepG c G id) (k + 1) := by
  obtain ⟨g1, g2, g3, g4, -⟩ := hc
  cases hch : chooseL G.gone c.procs.toNat (belowV G.x c.procs).toNat c.procs.toNat 0 with
  | none =>
    rw [stepG_none hch]
    exact (h.x _).mono (by omega)
  | some p =>
    have hp := (chooseL_lt (by omega) _ _ _ hch).1
    have b1 := belowV_lo (x := nxt G.x) (n := c.objects) g3
    have b2 := belowV_hi (x := nxt G.x) (n := c.objects) g3
    obtain ⟨n, hn⟩ : ∃ n : Nat, belowV (nxt G.x) c.objects = (n : Int) := ⟨(belowV (nxt G.x) c.objects).toNat, by omega⟩
    have hnn : n < c.objects.toNat := by omega
    obtain ⟨a1, a2, a3, a4, a5⟩ := ask_ok (procs := c.procs) (nxt (nxt G.x)) id p (belowV (nxt G.x) c.objects) ⟨by omega, by omega⟩
    cases hr : askL (nxt (nxt G.x)) id p (belowV (nxt G.x) c.objects) with
    | mk y o =>
      rw [hr] at a1 a2 a3
      rw [hn] at a2 a3
      rw [stepG_some hch hr]
      cases ht : turnL G o with
      | none => exact (h.x y).mono (by omega)
      | some q =>
        obtain ⟨q1, q2, q3, q4⟩ := turn_ok h o q n a1 a2 hnn a3 ht
        exact place_ok hk (h.x y) q n q1 q2 hnn q3
theorem first_ok {c : GenC} (hc : c.good) : GOk c (firstG c) 0 where
  freeN := by simp [firstG]
  goneN := by simp [firstG]
  stN := by simp [firstG]
  now := ⟨by simp [firstG], by simp [firstG]⟩
  free := fun p => by
    have : (firstG c).free.getD p 0 = 0 := by
      simp only [firstG, List.getD_eq_getElem?_getD, List.getElem?_replicate]
      split <;> rfl
    rw [this]
    omega
  st := fun i hi => by
    have : (firstG c).states.getD i [] = if i % 6 + 1 = 1 ∨ i % 6 + 1 = 2 then [0] else [] := by
      simp only [firstG, List.getD_eq_getElem?_getD, List.getElem?_map, List.getElem?_range hi]
      rfl
    rw [this]
    by_cases h : i % 6 + 1 = 1 ∨ i % 6 + 1 = 2
    · rw [if_pos h]
      exact ⟨fun _ => ⟨0, rfl, by omega, by omega⟩, fun _ => ⟨0, rfl, by omega, by omega⟩, (fun e => by omega), (fun e => by omega), (fun e => by omega)⟩
    · rw [if_neg h]
      exact ⟨(fun e => by omega), (fun e => by omega), fun _ => ⟨by simp, by simp⟩, fun _ => ⟨List.Pairwise.nil, by simp, by simp⟩, fun _ => .inl rfl⟩
  len := by simp [firstG]
theorem steps_ok {c : GenC} (hc : c.good) : ∀ n : Nat, n ≤ 64 → GOk c (stepsG c (firstG c) n) n
  | 0, _ => first_ok hc
  | n + 1, h => step_ok hc (by omega) (steps_ok hc n (by omega)) _
end Go.Proofs.Ytlhgdbangnohjaa
