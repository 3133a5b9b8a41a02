/- Operations by invocations: the reference's Sorted. A history's objects: the reference's Objects. A history's objects, the walk: the reference's Objects. The reference's find, of an operation that is there. Operations one after the other. No Go text is spoken of. What model.Runs computes. What the reference's Step and Runs compute. An order that is none but that of the operations in a list: the reference's Valid. Without wrong answers the operations of each object have the order of their numbers: plainly. -/
import Derived.Test.YtlhgdbangnohjaaMOpsRow
import Derived.Test.YtlhgdbangnohjaaGAt
import Derived.Deep.QuietTactic
import Derived.Deep.AppendLies
import Derived.Deep.CutRange
import Derived.Test.YtlhgdbangnohjaaMAll
import Derived.Test.YtlhgdbangnohjaaMSet
import Derived.Test.YtlhgdbangnohjaaMOps
import Derived.Test.YtlhgdbangnohjaaRDoM
import Derived.Test.YtlhgdbangnohjaaMStep
import Derived.Test.YtlhgdbangnohjaaOpTimes
import Derived.Test.YtlhgdbangnohjaaRTail
import Derived.Test.YtlhgdbangnohjaaGTail
namespace Go.Proofs.Ytlhgdbangnohjaa
open Go.RowKit
set_option linter.unusedVariables false
set_option linter.unusedSimpArgs false
/-- Is one not behind another one? -/
def leO (o a : OpR) : Bool := decide (a.inv < o.inv) || (decide (a.inv = o.inv) && decide (a.id ≤ o.id))
def insO (o : OpR) (l : List OpR) : List OpR := l.takeWhile (leO o) ++ o :: l.dropWhile (leO o)
def sortedL (l : List OpR) : List OpR := l.foldl (fun acc o => insO o acc) []
theorem insO_perm (o : OpR) (l : List OpR) : (insO o l).Perm (o :: l) := by
  unfold insO
  refine List.perm_middle.trans ?_
  rw [List.takeWhile_append_dropWhile]
theorem sortedL_perm (l : List OpR) : (sortedL l).Perm l := by
  have h : ∀ (l acc : List OpR), (l.foldl (fun acc o => insO o acc) acc).Perm (acc ++ l) := by
    intro l
    induction l with
    | nil => intro acc; simp
    | cons o l ih =>
      intro acc
      rw [List.foldl_cons]
      refine (ih _).trans ?_
      refine ((insO_perm o acc).append_right l).trans ?_
      exact List.perm_middle.symm
  have := h l []
  unfold sortedL
  simpa using this
theorem sortedL_snoc (l : List OpR) (o : OpR) : sortedL (l ++ [o]) = insO o (sortedL l) := by
  unfold sortedL
  rw [List.foldl_append]
  rfl
theorem take_while_all (p : OpR → Bool) : ∀ (l : List OpR) (k : Nat), (∀ j (h : j < l.length), j < k → p l[j] = true) → (k < l.length → ∀ h : k < l.length, p l[k] = false) → k ≤ l.length → l.takeWhile p = l.take k ∧ l.dropWhile p = l.drop k
  | [], k, _, _, hk => by simp
  | a :: l, 0, _, h2, _ => by
    have := h2 (by simp) (by simp)
    simp only [List.getElem_cons_zero] at this
    simp [List.takeWhile, List.dropWhile, this]
  | a :: l, k + 1, h1, h2, hk => by
    have h0 := h1 0 (by simp) (by omega)
    simp only [List.getElem_cons_zero] at h0
    have ih := take_while_all p l k (fun j h hj => by
      have := h1 (j + 1) (by simpa using h) (by omega)
      simpa using this) (fun h _ => by
      have := h2 (by simpa using h) (by simpa using h)
      simpa using this) (by simpa using hk)
    simp only [List.takeWhile, List.dropWhile, h0, List.take_succ_cons, List.drop_succ_cons]
    exact ⟨by rw [ih.1], ih.2⟩
theorem insO_at {o : OpR} {l : List OpR} {k : Nat} (h1 : ∀ j (h : j < l.length), j < k → leO o l[j] = true) (h2 : k < l.length → ∀ h : k < l.length, leO o l[k] = false) (hk : k ≤ l.length) : insO o l = l.take k ++ [o] ++ l.drop k := by
  unfold insO
  obtain ⟨a, b⟩ := take_while_all (leO o) l k h1 h2 hk
  rw [a, b]
  simp
/-- Of a list that is read, the front and the rest. -/
theorem Ops.take {w : World} {p : Option Addr} {n k k2 : Nat} {l : List OpR} (h : Ops w (.slice p n k) l) (i : Nat) (hi : i ≤ n) : Ops w (.slice p i k2) (l.take i) := by
  obtain ⟨p', cap, e, hl, hc⟩ := h
  cases e
  refine ⟨p, k2, by rw [List.length_take, Nat.min_eq_left hi], by simp; omega, fun h0 => ?_⟩
  rw [List.length_take, Nat.min_eq_left hi] at h0
  obtain ⟨b, off, e2, H⟩ := hc (by omega)
  refine ⟨b, off, e2, fun j hj => ?_⟩
  have := H j (by simp at hj; omega)
  simpa using this
theorem Ops.drop {w : World} {b off n k k2 : Nat} {l : List OpR} (h : Ops w (.slice (some ⟨b, off, none⟩) n k) l) (i : Nat) (hi : i ≤ n) : Ops w (.slice (some ⟨b, off + i * 11, none⟩) (n - i) k2) (l.drop i) := by
  obtain ⟨p', cap, e, hl, hc⟩ := h
  cases e
  refine ⟨some ⟨b, off + i * 11, none⟩, k2, by rw [List.length_drop], by simp; omega, fun h0 => ?_⟩
  simp only [List.length_drop] at h0
  obtain ⟨b', off', e2, H⟩ := hc (by omega)
  cases e2
  refine ⟨b, off + i * 11, rfl, fun j hj => ?_⟩
  have := H (i + j) (by simp at hj; omega)
  simp only [List.getElem_drop]
  rw [show off + i * 11 + j * 11 = off + (i + j) * 11 by rw [Nat.add_mul]; omega]
  exact this
theorem opAt_get {l : List OpR} {k : Nat} (h : k < l.length) : opAt l k = l[k] := by
  unfold opAt
  rw [List.getD_eq_getElem?_getD, List.getElem?_eq_getElem h]
  rfl
theorem insO_opAt {o : OpR} {l : List OpR} {k : Nat} (h1 : ∀ j, j < k → leO o (opAt l j) = true) (h2 : k < l.length → leO o (opAt l k) = false) (hk : k ≤ l.length) : l.take k ++ [o] ++ l.drop k = insO o l :=
  (insO_at (fun j hj hjk => by rw [← opAt_get hj]; exact h1 j hjk) (fun hk' _ => by rw [← opAt_get hk']; exact h2 hk') hk).symm
theorem take_snocO {l : List OpR} {k : Nat} (h : k < l.length) : l.take (k + 1) = l.take k ++ [opAt l k] := by
  rw [opAt_get h, List.take_succ_eq_append_getElem h]
theorem sortedL_step {l : List OpR} {k : Nat} (h : k < l.length) : sortedL (l.take (k + 1)) = insO (opAt l k) (sortedL (l.take k)) := by
  rw [take_snocO h, sortedL_snoc]
theorem Grow.drewNS {a b : World} (h : Grow a b) (n : Nat) : Grow a (b.drewN n) := ⟨h.os, h.tape, h.output, h.size, h.block⟩
theorem own_growO {w w' : World} {base : Nat} {e : TypeId} {size n : Nat} {v : Value} {xs : List Value} (h : w.ownsRow base e size v n xs) (hg : Grow w w') : w'.ownsRow base e size v n xs := own_keep h (fun k hk => hg.block k (h.lt k hk).2)
theorem own_capO {w : World} {base : Nat} {e : TypeId} {size n k m : Nat} {A : Option Addr} {xs : List Value} (h : w.ownsRow base e size (.slice A m k) n xs) : n ≤ k := by
  rcases h.2 with ⟨h1, h2⟩ | ⟨g, cap, cur, h1, h2, h3, h4, h5⟩
  · omega
  · cases h1
    exact h4
theorem Ops.one {w : World} {b : Nat} {id proc obj kind meth arg sec : Int} {done : Bool} {res inv ret : Int} {t : TypeId} {fr : Nat × Nat}
    (h : w.heap[b]? = some (.cells #[.int .i64 id, .int .i64 proc, .int .i64 obj, .int .i64 kind, .int .i64 meth, .int .i64 arg, .int .i64 sec, .bool done, .int .i64 res, .int .i64 inv, .int .i64 ret] t fr)) :
    Ops w (.slice (some ⟨b, 0, none⟩) 1 1) [⟨id, proc, obj, kind, meth, arg, sec, done, res, inv, ret⟩] := by
  refine ⟨_, 1, rfl, by simp, fun _ => ⟨b, 0, rfl, fun i hi => ?_⟩⟩
  obtain rfl : i = 0 := by simpa using hi
  unfold OpAt
  simp only [Nat.zero_mul, Nat.zero_add, List.getElem_cons_zero]
  refine ⟨?_, ?_, ?_, ?_, ?_, ?_, ?_, ?_, ?_, ?_, ?_⟩
  all_goals rw [heap_cell h]; rfl
theorem own_monoO {w : World} {base base' : Nat} {e : TypeId} {size n : Nat} {v : Value} {xs : List Value} (h : w.ownsRow base e size v n xs) (hb : base' ≤ base) : w.ownsRow base' e size v n xs := by
  refine ⟨h.1, ?_⟩
  rcases h.2 with h1 | ⟨g, cap, cur, h1, h2, h3⟩
  · exact .inl h1
  · exact .inr ⟨g, cap, cur, h1, Nat.le_trans hb h2, h3⟩
theorem upto_sO {P : Nat → Prop} {k : Nat} (h : ∀ q, q < k → P q) (hk : P k) : ∀ q, q < k + 1 → P q := fun q hq => by
  by_cases e : q = k
  · rw [e]; exact hk
  · exact h q (by omega)
theorem Ops.cellsAt {w : World} {A : Option Addr} {n c : Nat} {l : List OpR} (h : Ops w (.slice A n c) l) : ∀ k, k < n → ∃ b off, A = some ⟨b, off, none⟩ ∧ OpAt w b (off + k * 11) (opAt l k) := by
  obtain ⟨p, cap, e, -, hc⟩ := h.read
  cases e
  exact hc
theorem sortedL_len (l : List OpR) : (sortedL l).length = l.length := (sortedL_perm l).length_eq
set_option maxRecDepth 100000 in
set_option maxHeartbeats 8000000 in
theorem Sorted_c (l : List OpR) (v : Value) (w : World) (hv : Ops w v l) (hl64 : l.length ≤ 1000) :
    Calls Try.prog 33 #[v] w fun e w' => ∃ v', e = .returned v' ∧ w'.ownsRow w.heap.size 52 11 v' l.length (opCells (sortedL l)) ∧ Grow w w' := by
  have HV := hid hv
  have HST := hid (fun k h => sortedL_step (l := l) (k := k) h)
  have HLN := hid (fun k (h : k ≤ l.length) => show (sortedL (l.take k)).length = k by rw [sortedL_len, List.length_take]; omega)
  have HEND := hid (show sortedL (l.take l.length) = sortedL l by rw [List.take_length])
  obtain ⟨p, cap, rfl, hl, hc⟩ := hv.read
  have HC := hid hc
  obtain ⟨i0, hi0, hz0, hz1, hz2⟩ := info_parts infoOpM
  clear hc hv hl
  generalize hN : l.length = n at *
  clear hN
  go_enter Try.func33, Try.ntmps33
  go_wp2_with fail
  go_loopw [3, 4] (fun s a wr => ∃ (j : Nat) (A : Option Addr) (ko : Nat), j ≤ n ∧ s = .slice A j ko ∧ a = .int .i64 (j : Int) ∧ Hid (wr.ownsRow w.heap.size 52 11 (.slice A j ko) j (opCells (sortedL (l.take j)))) ∧ Hid (Grow w wr) ∧ (j = 0 → A = none ∧ ko = 0)) (fun _ a _ => n - (intOf a).toNat)
  case atStart => exact ⟨0, none, 0, by omega, rfl, rfl, hid (World.ownsRow_nil _ _ _ _), hid (Grow.refl _), fun _ => ⟨rfl, rfl⟩⟩
  case round =>
    obtain ⟨j, A, ko, hj, rfl, rfl, HOw, HGr, hz⟩ := hrel
    have HZn := hid hz
    clear hz
    by_cases hlt : j < n
    · have hk0 : (0 : Int) ≤ (j : Int) := by omega
      have hk1 : (j : Int) < (n : Int) := by omega
      have hacc := HLN.out j hj
      have hstep := HST.out j hlt
      obtain ⟨b, off, rfl, ha⟩ := HC.out j hlt
      generalize opAt l j = o at *
      generalize hA : sortedL (l.take j) = acc at *
      have hops := hid (Ops.of_own HOw.out (by omega))
      have HCA := hid hops.out.cellsAt
      have HSTEP := hid hstep
      have HACC := hid hacc
      obtain ⟨oid, oproc, oobj, okind, ometh, oarg, osec, odone, ores, oinv, oret⟩ := o
      unfold OpAt at ha
      dsimp only at ha
      obtain ⟨c0, c1, c2, c3, c4, c5, c6, c7, c8, c9, c10⟩ := ha
      have HA0 := hid (And.intro c0 (And.intro c1 (And.intro c2 (And.intro c3 (And.intro c4 (And.intro c5 (And.intro c6 (And.intro c7 (And.intro c8 (And.intro c9 c10))))))))))
      replace c0 := HGr.out.cell c0
      replace c1 := HGr.out.cell c1
      replace c2 := HGr.out.cell c2
      replace c3 := HGr.out.cell c3
      replace c4 := HGr.out.cell c4
      replace c5 := HGr.out.cell c5
      replace c6 := HGr.out.cell c6
      replace c7 := HGr.out.cell c7
      replace c8 := HGr.out.cell c8
      replace c9 := HGr.out.cell c9
      replace c10 := HGr.out.cell c10
      clear hstep hacc hA
      go_upto_region 5 with fail
      go_cut [5] from 7 to 74 (fun s w2 => s = .int .i64 0 ∧ w2 = wr)
      case first =>
        go_wp2_with fail
        go_meet
        exact ⟨rfl, rfl⟩
      obtain ⟨rfl, hcw⟩ := hcut
      rw [hcw]
      clear hcw
      go_step
      go_step
      go_cut [5] from 7 to 74 (fun s w2 => ∃ k : Nat, k ≤ j ∧ s = .int .i64 (k : Int) ∧ Hid (acc.take k ++ [⟨oid, oproc, oobj, okind, ometh, oarg, osec, odone, ores, oinv, oret⟩] ++ acc.drop k = insO ⟨oid, oproc, oobj, okind, ometh, oarg, osec, odone, ores, oinv, oret⟩ acc) ∧ Grow wr w2)
      case first =>
        have HIN := hid (fun k h1 h2 hk => insO_opAt (o := ⟨oid, oproc, oobj, okind, ometh, oarg, osec, odone, ores, oinv, oret⟩) (l := acc) (k := k) h1 h2 (by rw [HACC.out]; exact hk))
        rw [HACC.out] at HIN
        go_wp2_with fail
        go_loopw [5] (fun s w2 => ∃ k : Nat, k ≤ j ∧ s = .int .i64 (k : Int) ∧ Hid (∀ q, q < k → leO ⟨oid, oproc, oobj, okind, ometh, oarg, osec, odone, ores, oinv, oret⟩ (opAt acc q) = true) ∧ Grow wr w2) (fun s _ => j - (intOf s).toNat)
        case atStart => exact ⟨0, by omega, rfl, hid (fun q hq => by omega), Grow.refl _⟩
        case round =>
          obtain ⟨k, hk, rfl, HLE, hgk⟩ := hrel
          by_cases hkj : k < j
          · obtain ⟨gb, goff, rfl, hat⟩ := HCA.out k hkj
            have hq0 : (0 : Int) ≤ (k : Int) := by omega
            have hq1 : (k : Int) < (j : Int) := by omega
            have HNX := hid (fun h => upto_sO (P := fun q => leO ⟨oid, oproc, oobj, okind, ometh, oarg, osec, odone, ores, oinv, oret⟩ (opAt acc q) = true) HLE.out h)
            have HEX := hid (fun h => HIN.out k HLE.out (fun _ => h) hk)
            generalize opAt acc k = a at *
            obtain ⟨aid, aproc, aobj, akind, ameth, aarg, asec, adone, ares, ainv, aret⟩ := a
            unfold OpAt at hat
            dsimp only at hat HNX HEX
            obtain ⟨d0, -, -, -, -, -, -, -, -, d9, -⟩ := hat
            replace d0 := hgk.cell d0
            replace d9 := hgk.cell d9
            have e0 := hgk.cell c0
            have e9 := hgk.cell c9
            by_cases hlt1 : ainv < oinv
            · have q1 := decide_eq_true hlt1
              have HZ := hid (HNX.out (by simp [leO, hlt1]))
              clear HNX HEX hlt1
              go_wp2_with fail
              go_quiet (fail)
              go_wp2_with fail
              go_roundw
              case rel => exact ⟨k + 1, by omega, by go_num, HZ, Grow.drewNS hgk _⟩
              case measure => (simp [intOf]; try omega)
            · have q1 := decide_eq_false hlt1
              by_cases heq : ainv = oinv
              · have q2 : (ainv == oinv) = true := by simpa using heq
                by_cases hid1 : aid ≤ oid
                · have q3 := decide_eq_true hid1
                  have HZ := hid (HNX.out (by simp [leO, heq, hid1]))
                  clear HNX HEX hlt1 heq hid1
                  go_wp2_with fail
                  go_quiet (fail)
                  go_wp2_with fail
                  go_roundw
                  case rel => exact ⟨k + 1, by omega, by go_num, HZ, Grow.drewNS hgk _⟩
                  case measure => (simp [intOf]; try omega)
                · have q3 := decide_eq_false hid1
                  have HZ := hid (HEX.out (by simp [leO, heq, hid1]))
                  clear HNX HEX hlt1 heq hid1
                  go_wp2_with fail
                  go_quiet (fail)
                  go_wp2_with fail
                  go_meet
                  exact ⟨k, hk, rfl, HZ, Grow.drewNS hgk _⟩
              · have q2 : (ainv == oinv) = false := by simpa using heq
                have HZ := hid (HEX.out (by simp [leO, hlt1, heq]))
                clear HNX HEX hlt1 heq
                go_wp2_with fail
                go_quiet (fail)
                go_wp2_with fail
                go_meet
                exact ⟨k, hk, rfl, HZ, Grow.drewNS hgk _⟩
          · have hq1 : ¬ (k : Int) < (j : Int) := by omega
            have HZ := hid (HIN.out k HLE.out (fun h => absurd h hkj) hk)
            go_wp2_with fail
            go_quiet (fail)
            go_wp2_with fail
            go_meet
            exact ⟨k, hk, rfl, HZ, Grow.drewNS hgk _⟩
      obtain ⟨k, hk, rfl, HIN, hgk⟩ := hcut
      have HFr := hid ((hops.out.grow hgk).take (k2 := ko) k hk)
      have HOw2 := hid (own_growO HOw.out hgk)
      have HGk := hid (Grow.trans HGr.out hgk)
      have HA1 := HA0.out
      obtain ⟨c0', c1', c2', c3', c4', c5', c6', c7', c8', c9', c10'⟩ := HA1
      have HCW := hid (And.intro (HGk.out.cell c0') (And.intro (HGk.out.cell c1') (And.intro (HGk.out.cell c2') (And.intro (HGk.out.cell c3') (And.intro (HGk.out.cell c4') (And.intro (HGk.out.cell c5') (And.intro (HGk.out.cell c6') (And.intro (HGk.out.cell c7') (And.intro (HGk.out.cell c8') (And.intro (HGk.out.cell c9') (HGk.out.cell c10')))))))))))
      have HOps := hid (hops.out.grow hgk)
      clear c0 c1 c2 c3 c4 c5 c6 c7 c8 c9 c10 c0' c1' c2' c3' c4' c5' c6' c7' c8' c9' c10' hops HOw
      have hkI0 : (0 : Int) ≤ (k : Int) := by omega
      have hkI1 : (k : Int) ≤ (j : Int) := by omega
      have hfin : ∀ (v3 : Value) (w3 : World), w3.ownsRow wc.heap.size 52 11 v3 (k + 1 + (j - k)) (opCells (acc.take k ++ [⟨oid, oproc, oobj, okind, ometh, oarg, osec, odone, ores, oinv, oret⟩] ++ acc.drop k)) → w3.ownsRow w.heap.size 52 11 v3 (j + 1) (opCells (sortedL (l.take (j + 1)))) := fun v3 w3 h => by
        rw [HIN.out, ← HSTEP.out, show k + 1 + (j - k) = j + 1 by omega] at h
        exact own_monoO h (Below.size HGk.out)
      have HFIN := hid hfin
      clear hfin
      by_cases hj0 : j = 0
      · obtain ⟨rfl, rfl⟩ := HZn.out hj0
        have hk00 : k = 0 := by omega
        subst hj0
        subst hk00
        have hdr := HOps.out.take (k2 := 0) 0 (Nat.le_refl _)
        have hdrop : Ops wc (.slice none 0 0) (acc.drop 0) := by
          have : acc = [] := List.eq_nil_of_length_eq_zero HACC.out
          rw [this]
          exact Ops.nil _
        have HDr := hid hdrop
        clear hdr hdrop
        go_wp2_with (at_builtin; refine wpList_append_ops rfl _ _ rfl wc.heap.size _ 0 [] rfl (World.ownsRow_made wc #[] 0 (Nat.le_refl _) (Nat.zero_le _) rfl) none 0 0 (acc.take 0) rfl (HFr.out.grow (Grow.alloc _ _)) (by omega) (by simp) ?_)
        intro v1 w1 ho1 hg1
        have g1 : Grow wc w1 := ((Below.refl _ wc).alloc (Nat.le_refl _) _).grown hg1 (by simp) (by intro q hq; simp [Value.ownBlock] at hq; omega)
        have HO1 := hid ho1
        have G1 := hid g1
        obtain ⟨c0, c1, c2, c3, c4, c5, c6, c7, c8, c9, c10⟩ := HCW.out
        replace c0 := g1.cell c0
        replace c1 := g1.cell c1
        replace c2 := g1.cell c2
        replace c3 := g1.cell c3
        replace c4 := g1.cell c4
        replace c5 := g1.cell c5
        replace c6 := g1.cell c6
        replace c7 := g1.cell c7
        replace c8 := g1.cell c8
        replace c9 := g1.cell c9
        replace c10 := g1.cell c10
        simp only [Nat.zero_mul, Nat.add_zero] at c0 c1 c2 c3 c4 c5 c6 c7 c8 c9 c10
        clear ho1 hg1 g1
        go_wp2_with (at_builtin; refine wpList_append_ops rfl _ _ rfl wc.heap.size _ 0 (acc.take 0) rfl (own_growO HO1.out (Grow.alloc w1 (.cells #[.int .i64 oid, .int .i64 oproc, .int .i64 oobj, .int .i64 okind, .int .i64 ometh, .int .i64 oarg, .int .i64 osec, .bool odone, .int .i64 ores, .int .i64 oinv, .int .i64 oret] 52))) (some ⟨w1.heap.size, 0, none⟩) 1 1 [⟨oid, oproc, oobj, okind, ometh, oarg, osec, odone, ores, oinv, oret⟩] rfl (Ops.one (heap_new w1 _)) (by omega) (Nat.le_trans G1.out.size (Grow.alloc w1 (.cells #[.int .i64 oid, .int .i64 oproc, .int .i64 oobj, .int .i64 okind, .int .i64 ometh, .int .i64 oarg, .int .i64 osec, .bool odone, .int .i64 ores, .int .i64 oinv, .int .i64 oret] 52)).size) ?_)
        intro v2 w2 ho2 hg2
        have g2 : Grow wc w2 := (Grow.trans G1.out (Grow.alloc w1 (.cells #[.int .i64 oid, .int .i64 oproc, .int .i64 oobj, .int .i64 okind, .int .i64 ometh, .int .i64 oarg, .int .i64 osec, .bool odone, .int .i64 ores, .int .i64 oinv, .int .i64 oret] 52))).grown hg2 (Nat.le_trans G1.out.size (Grow.alloc w1 (.cells #[.int .i64 oid, .int .i64 oproc, .int .i64 oobj, .int .i64 okind, .int .i64 ometh, .int .i64 oarg, .int .i64 osec, .bool odone, .int .i64 ores, .int .i64 oinv, .int .i64 oret] 52)).size) (fun q hq => (HO1.out.lt q hq).1)
        have HO2 := hid ho2
        have G2 := hid g2
        clear ho2 hg2 g2 c0 c1 c2 c3 c4 c5 c6 c7 c8 c9 c10
        go_wp2_with (at_builtin; refine wpList_append_ops rfl _ _ rfl wc.heap.size v2 1 [(⟨oid, oproc, oobj, okind, ometh, oarg, osec, odone, ores, oinv, oret⟩ : OpR)] rfl HO2.out none 0 0 (acc.drop 0) rfl (HDr.out.grow G2.out) (by omega) G2.out.size ?_)
        intro v3 w3 ho3 hg3
        have g3 : Grow wc w3 := G2.out.grown hg3 G2.out.size (fun q hq => (HO2.out.lt q hq).1)
        have hown3 := HFIN.out _ w3 (by simpa using ho3)
        obtain ⟨A3, k3, rfl⟩ := own_formM hown3
        have HO3 := hid hown3
        have G3 := hid (Grow.trans HGk.out g3)
        clear ho3 hg3 g3 hown3
        go_wp2_with fail
        go_roundw
        case rel => exact ⟨0 + 1, A3, k3, by omega, rfl, by go_num, HO3, G3, fun h => absurd h (by omega)⟩
        case measure => (simp [intOf]; try omega)
      · have hcap := own_capO HOw2.out
        obtain ⟨ga, ca, eA, hba, hja⟩ := HOw2.out.form (by omega)
        cases eA
        have hkc : (k : Int) ≤ (ko : Int) := by omega
        have hjc : (j : Int) ≤ (ko : Int) := by omega
        go_wp2_with (at_builtin; refine wpList_append_ops rfl _ _ rfl wc.heap.size _ 0 [] rfl (World.ownsRow_made wc #[] 0 (Nat.le_refl _) (Nat.zero_le _) rfl) (some ⟨ga, 0, none⟩) k ko (acc.take k) rfl (HFr.out.grow (Grow.alloc _ _)) (by omega) (by simp) ?_)
        intro v1 w1 ho1 hg1
        have g1 : Grow wc w1 := ((Below.refl _ wc).alloc (Nat.le_refl _) _).grown hg1 (by simp) (by intro q hq; simp [Value.ownBlock] at hq; omega)
        have HO1 := hid ho1
        have G1 := hid g1
        obtain ⟨c0, c1, c2, c3, c4, c5, c6, c7, c8, c9, c10⟩ := HCW.out
        replace c0 := g1.cell c0
        replace c1 := g1.cell c1
        replace c2 := g1.cell c2
        replace c3 := g1.cell c3
        replace c4 := g1.cell c4
        replace c5 := g1.cell c5
        replace c6 := g1.cell c6
        replace c7 := g1.cell c7
        replace c8 := g1.cell c8
        replace c9 := g1.cell c9
        replace c10 := g1.cell c10
        clear ho1 hg1 g1
        go_wp2_with (at_builtin; refine wpList_append_ops rfl _ _ rfl wc.heap.size _ k (acc.take k) rfl (own_growO HO1.out (Grow.alloc w1 (.cells #[.int .i64 oid, .int .i64 oproc, .int .i64 oobj, .int .i64 okind, .int .i64 ometh, .int .i64 oarg, .int .i64 osec, .bool odone, .int .i64 ores, .int .i64 oinv, .int .i64 oret] 52))) (some ⟨w1.heap.size, 0, none⟩) 1 1 [⟨oid, oproc, oobj, okind, ometh, oarg, osec, odone, ores, oinv, oret⟩] rfl (Ops.one (heap_new w1 _)) (by omega) (Nat.le_trans G1.out.size (Grow.alloc w1 (.cells #[.int .i64 oid, .int .i64 oproc, .int .i64 oobj, .int .i64 okind, .int .i64 ometh, .int .i64 oarg, .int .i64 osec, .bool odone, .int .i64 ores, .int .i64 oinv, .int .i64 oret] 52)).size) ?_)
        intro v2 w2 ho2 hg2
        have g2 : Grow wc w2 := (Grow.trans G1.out (Grow.alloc w1 (.cells #[.int .i64 oid, .int .i64 oproc, .int .i64 oobj, .int .i64 okind, .int .i64 ometh, .int .i64 oarg, .int .i64 osec, .bool odone, .int .i64 ores, .int .i64 oinv, .int .i64 oret] 52))).grown hg2 (Nat.le_trans G1.out.size (Grow.alloc w1 (.cells #[.int .i64 oid, .int .i64 oproc, .int .i64 oobj, .int .i64 okind, .int .i64 ometh, .int .i64 oarg, .int .i64 osec, .bool odone, .int .i64 ores, .int .i64 oinv, .int .i64 oret] 52)).size) (fun q hq => (HO1.out.lt q hq).1)
        have HO2 := hid ho2
        have G2 := hid g2
        clear ho2 hg2 g2 c0 c1 c2 c3 c4 c5 c6 c7 c8 c9 c10
        by_cases hkk : ko = k
        · subst hkk
          have hjk := hid (show j = ko by omega)
          have hdrop : Ops wc (.slice (some ⟨ga, 0, none⟩) 0 0) (acc.drop ko) := by
            have : acc.drop ko = [] := List.drop_eq_nil_of_le (by rw [HACC.out, hjk.out]; omega)
            rw [this]
            exact ⟨_, _, rfl, by simp, fun h => by simp at h⟩
          have HDr := hid hdrop
          clear hdrop
          go_wp2_with (at_builtin; go_loud (refine wpList_append_ops rfl _ _ rfl wc.heap.size v2 (ko + 1) (acc.take ko ++ [(⟨oid, oproc, oobj, okind, ometh, oarg, osec, odone, ores, oinv, oret⟩ : OpR)]) rfl HO2.out (some ⟨ga, 0, none⟩) 0 0 (acc.drop ko) rfl (HDr.out.grow G2.out) (by omega) G2.out.size ?_))
          intro v3 w3 ho3 hg3
          have g3 : Grow wc w3 := G2.out.grown hg3 G2.out.size (fun q hq => (HO2.out.lt q hq).1)
          have hown3 := HFIN.out _ w3 (by rw [List.append_assoc, show j - ko = 0 by have := hjk.out; omega]; exact ho3)
          obtain ⟨A3, k3, rfl⟩ := own_formM hown3
          have HO3 := hid hown3
          have G3 := hid (Grow.trans HGk.out g3)
          clear ho3 hg3 g3 hown3
          go_wp2_with fail
          go_roundw
          case rel => exact ⟨j + 1, A3, k3, by omega, rfl, by go_num, HO3, G3, fun h => absurd h (by omega)⟩
          case measure => (simp [intOf]; try omega)
        · have hdrop : Ops wc (.slice (some ⟨ga, 0 + k * 11, none⟩) (j - k) (ko - k)) (acc.drop k) := HOps.out.drop (k2 := ko - k) k hk
          rw [Nat.zero_add] at hdrop
          have HDr := hid hdrop
          clear hdrop
          go_wp2_with (at_builtin; refine wpList_append_ops rfl _ _ rfl wc.heap.size v2 (k + 1) (acc.take k ++ [(⟨oid, oproc, oobj, okind, ometh, oarg, osec, odone, ores, oinv, oret⟩ : OpR)]) rfl HO2.out (some ⟨ga, k * 11, none⟩) (j - k) (ko - k) (acc.drop k) rfl (HDr.out.grow G2.out) (by omega) G2.out.size ?_)
          intro v3 w3 ho3 hg3
          have g3 : Grow wc w3 := G2.out.grown hg3 G2.out.size (fun q hq => (HO2.out.lt q hq).1)
          have hown3 := HFIN.out _ w3 (by rw [List.append_assoc]; exact ho3)
          obtain ⟨A3, k3, rfl⟩ := own_formM hown3
          have HO3 := hid hown3
          have G3 := hid (Grow.trans HGk.out g3)
          clear ho3 hg3 g3 hown3
          go_wp2_with fail
          go_roundw
          case rel => exact ⟨j + 1, A3, k3, by omega, rfl, by go_num, HO3, G3, fun h => absurd h (by omega)⟩
          case measure => (simp [intOf]; try omega)
    · obtain rfl : n = j := by omega
      have hk1 : ¬ (n : Int) < (n : Int) := by omega
      have HR := hid (show wr.ownsRow w.heap.size 52 11 (.slice A n ko) n (opCells (sortedL l)) from by rw [← HEND.out]; exact HOw.out)
      clear HZn
      go_wp2_with fail
      go_ret
      exact ⟨_, rfl, HR.out, HGr.out⟩
end Go.Proofs.Ytlhgdbangnohjaa
namespace Go.Proofs.Ytlhgdbangnohjaa
open Go.RowKit
set_option linter.unusedVariables false
set_option linter.unusedSimpArgs false
/-- An object's operations. -/
structure SegR where
  obj : Int
  kind : Int
  ops : List OpR
def mineL (l : List OpR) (x : Int) : List OpR := l.filter (fun o => decide (o.obj = x))
def segOf (l : List OpR) (x : Int) : SegR := ⟨x, (opAt (sortedL (mineL l x)) 0).kind, sortedL (mineL l x)⟩
/-- Is an object's number behind the last one? -/
def pastB (last : Option Int) (o : OpR) : Bool := match last with | none => true | some z => decide (z < o.obj)
def lessB (acc : Option Int) (o : OpR) : Bool := match acc with | none => true | some z => decide (o.obj < z)
def nextF (last : Option Int) (acc : Option Int) (o : OpR) : Option Int := if pastB last o = true ∧ lessB acc o = true then some o.obj else acc
def nextO (l : List OpR) (last : Option Int) : Option Int := l.foldl (nextF last) none
def objs (l : List OpR) : Nat → Option Int → List SegR
  | 0, _ => []
  | f + 1, last => match nextO l last with
    | none => []
    | some x => segOf l x :: objs l f (some x)
def countP (l : List OpR) (last : Option Int) : Nat := (l.filter (pastB last)).length
def objectsL (l : List OpR) : List SegR := objs l (l.length + 1) none
theorem nextO_some {l : List OpR} {last : Option Int} {x : Int} (h : nextO l last = some x) : ∃ o ∈ l, o.obj = x ∧ pastB last o = true := by
  have key : ∀ (l : List OpR) (acc : Option Int), l.foldl (nextF last) acc = some x → acc = some x ∨ ∃ o ∈ l, o.obj = x ∧ pastB last o = true := by
    intro l
    induction l with
    | nil => intro acc h; exact .inl h
    | cons o l ih =>
      intro acc h
      rw [List.foldl_cons] at h
      rcases ih _ h with h1 | ⟨o', h1, h2⟩
      · unfold nextF at h1
        by_cases hc : pastB last o = true ∧ lessB acc o = true
        · rw [if_pos hc] at h1
          exact .inr ⟨o, by simp, Option.some.inj h1, hc.1⟩
        · rw [if_neg hc] at h1
          exact .inl h1
      · exact .inr ⟨o', by simp [h1], h2⟩
  rcases key l none h with h1 | h1
  · cases h1
  · exact h1
theorem count_lt {l : List OpR} {last : Option Int} {x : Int} (h : nextO l last = some x) : countP l (some x) < countP l last := by
  obtain ⟨o, ho, rfl, hp⟩ := nextO_some h
  have hsub : ∀ a, pastB (some o.obj) a = true → pastB last a = true := fun a ha => by
    cases last with
    | none => rfl
    | some z =>
      simp only [pastB, decide_eq_true_eq] at hp ha ⊢
      omega
  have hn : pastB (some o.obj) o = false := by simp [pastB]
  unfold countP
  clear h
  induction l with
  | nil => simp at ho
  | cons a l ih =>
    have hle : ∀ l : List OpR, (l.filter (pastB (some o.obj))).length ≤ (l.filter (pastB last)).length := by
      intro l
      induction l with
      | nil => simp
      | cons b l ih2 =>
        by_cases hb : pastB (some o.obj) b = true
        · rw [List.filter_cons_of_pos hb, List.filter_cons_of_pos (hsub b hb)]
          simp only [List.length_cons]
          omega
        · rw [List.filter_cons_of_neg (by simpa using hb)]
          by_cases hb2 : pastB last b = true
          · rw [List.filter_cons_of_pos hb2]
            simp only [List.length_cons]
            omega
          · rw [List.filter_cons_of_neg (by simpa using hb2)]
            exact ih2
    rcases List.mem_cons.1 ho with e | e
    · subst e
      rw [List.filter_cons_of_neg (by simpa using hn), List.filter_cons_of_pos hp]
      simp only [List.length_cons]
      have := hle l
      omega
    · have := ih e
      by_cases hb : pastB (some o.obj) a = true
      · rw [List.filter_cons_of_pos hb, List.filter_cons_of_pos (hsub a hb)]
        simp only [List.length_cons]
        omega
      · rw [List.filter_cons_of_neg (by simpa using hb)]
        by_cases hb2 : pastB last a = true
        · rw [List.filter_cons_of_pos hb2]
          simp only [List.length_cons]
          omega
        · rw [List.filter_cons_of_neg (by simpa using hb2)]
          exact this
theorem objs_step {l : List OpR} {f : Nat} {last : Option Int} (hf : countP l last < f) : objs l f last = match nextO l last with | none => [] | some x => segOf l x :: objs l (f - 1) (some x) := by
  obtain ⟨g, rfl⟩ : ∃ g, f = g + 1 := ⟨f - 1, by omega⟩
  rfl
theorem count_le (l : List OpR) : countP l none ≤ l.length := List.length_filter_le _ _
theorem objs_mem {l : List OpR} {s : SegR} : ∀ (f : Nat) (last : Option Int), s ∈ objs l f last → ∃ x, s = segOf l x ∧ ∃ o ∈ l, o.obj = x
  | 0, _, h => by simp [objs] at h
  | f + 1, last, h => by
    unfold objs at h
    cases hn : nextO l last with
    | none => rw [hn] at h; simp at h
    | some x =>
      rw [hn] at h
      rcases List.mem_cons.1 h with e | e
      · obtain ⟨o, ho, hx, -⟩ := nextO_some hn
        exact ⟨x, e, o, ho, hx⟩
      · exact objs_mem f (some x) e
theorem nextF_take {l : List OpR} {last : Option Int} {k : Nat} (h : k < l.length) : (l.take (k + 1)).foldl (nextF last) none = nextF last ((l.take k).foldl (nextF last) none) (opAt l k) := by
  rw [take_snocO h, List.foldl_append]
  rfl
theorem mine_take {l : List OpR} {x : Int} {k : Nat} (h : k < l.length) : mineL (l.take (k + 1)) x = mineL (l.take k) x ++ (if (opAt l k).obj = x then [opAt l k] else []) := by
  unfold mineL
  rw [take_snocO h, List.filter_append]
  by_cases hx : (opAt l k).obj = x
  · rw [if_pos hx, List.filter_cons_of_pos (by simpa using hx)]
    rfl
  · rw [if_neg hx, List.filter_cons_of_neg (by simpa using hx)]
    rfl
theorem mine_len (l : List OpR) (x : Int) : (mineL l x).length ≤ l.length := List.length_filter_le _ _
theorem mine_pos {l : List OpR} {x : Int} {o : OpR} (ho : o ∈ l) (hx : o.obj = x) : 0 < (mineL l x).length := List.length_pos_of_mem (a := o) (by unfold mineL; rw [List.mem_filter]; exact ⟨ho, by simpa using hx⟩)
end Go.Proofs.Ytlhgdbangnohjaa
namespace Go.Proofs.Ytlhgdbangnohjaa
open Go.RowKit
set_option linter.unusedVariables false
set_option linter.unusedSimpArgs false
def segZ : SegR := ⟨0, 0, []⟩
def segCells : List SegR → List Value → List Value
  | s :: ss, v :: vs => .int .i64 s.obj :: .int .i64 s.kind :: v :: segCells ss vs
  | _, _ => []
theorem segCells_snoc : ∀ (ss : List SegR) (vs : List Value) (s : SegR) (v : Value), vs.length = ss.length → segCells (ss ++ [s]) (vs ++ [v]) = segCells ss vs ++ [.int .i64 s.obj, .int .i64 s.kind, v]
  | [], [], _, _, _ => rfl
  | a :: ss, b :: vs, s, v, h => by
    have := segCells_snoc ss vs s v (by simpa using h)
    simp only [List.cons_append, segCells]
    rw [this]
  | [], _ :: _, _, _, h => by simp at h
  | _ :: _, [], _, _, h => by simp at h
/-- Where a history's objects lie. -/
structure SegsAt (base : Nat) (w : World) (v : Value) (ss : List SegR) (vs : List Value) : Prop where
  len : vs.length = ss.length
  own : w.ownsRow base 54 3 v ss.length (segCells ss vs)
  each : ∀ i, i < ss.length → w.ownsRow base 52 11 (vs.getD i (.slice none 0 0)) (ss.getD i segZ).ops.length (opCells (ss.getD i segZ).ops)
theorem SegsAt.grow {base : Nat} {w w' : World} {v : Value} {ss : List SegR} {vs : List Value} (h : SegsAt base w v ss vs) (hg : Grow w w') : SegsAt base w' v ss vs where
  len := h.len
  own := own_growO h.own hg
  each := fun i hi => own_growO (h.each i hi) hg
theorem SegsAt.nil {base : Nat} {w : World} : SegsAt base w (.slice none 0 0) [] [] where
  len := rfl
  own := World.ownsRow_nil _ _ _ _
  each := fun i hi => by simp at hi
/-- Rows of unlike types lie apart. -/
theorem own_types {w : World} {base base' : Nat} {e e' : TypeId} {size size' n n' : Nat} {v v' : Value} {xs xs' : List Value} (h : w.ownsRow base e size v n xs) (h' : w.ownsRow base' e' size' v' n' xs') (hne : e ≠ e') {k : Nat} (hk : v.ownBlock = some k) : v'.ownBlock ≠ some k := fun hk' => by
  rcases h.2 with ⟨h1, -⟩ | ⟨g, cap, cur, h1, -, h3, -⟩
  · subst h1; cases hk
  · subst h1
    rcases h'.2 with ⟨h1, -⟩ | ⟨g', cap', cur', h1, -, h3', -⟩
    · subst h1; cases hk'
    · subst h1
      have e1 : g = k := Option.some.inj hk
      have e2 : g' = k := Option.some.inj hk'
      subst e1 e2
      rw [h3] at h3'
      exact hne (Obj.cells.inj (Option.some.inj h3')).2.1
theorem own_grownBy {w w' : World} {base : Nat} {e : TypeId} {size n : Nat} {v : Value} {xs : List Value} {row : Option Nat} (h : w.ownsRow base e size v n xs) (hg : w.grownBy w' row) (hne : ∀ k, v.ownBlock = some k → row ≠ some k) : w'.ownsRow base e size v n xs :=
  own_keep h (fun k hk => hg.block k (h.lt k hk).2 (fun e => hne k hk e.symm))
theorem SegsAt.push {base : Nat} {w w' : World} {v : Value} {ss : List SegR} {vs : List Value} (h : SegsAt base w v ss vs) (s : SegR) (u : Value) {g cap : Nat} (ho : w'.ownsRow base 54 3 (.slice (some ⟨g, 0, none⟩) (ss.length + 1) cap) (ss.length + 1) (segCells ss vs ++ [.int .i64 s.obj, .int .i64 s.kind, u])) (hg : w.grownBy w' v.ownBlock)
    (hu : w.ownsRow base 52 11 u s.ops.length (opCells s.ops)) : SegsAt base w' (.slice (some ⟨g, 0, none⟩) (ss.length + 1) cap) (ss ++ [s]) (vs ++ [u]) where
  len := by simp [h.len]
  own := by
    rw [segCells_snoc _ _ _ _ h.len, List.length_append]
    exact ho
  each := fun i hi => by
    have hk : ∀ {x : Value} {n : Nat} {xs : List Value}, w.ownsRow base 52 11 x n xs → w'.ownsRow base 52 11 x n xs := fun hx =>
      own_grownBy hx hg (fun k hk e => own_types hx h.own (by decide) hk e)
    by_cases e : i < ss.length
    · simp only [List.getD_eq_getElem?_getD, List.getElem?_append_left e, List.getElem?_append_left (show i < vs.length by rw [h.len]; exact e)]
      have := hk (h.each i e)
      simpa only [List.getD_eq_getElem?_getD] using this
    · have e2 : i = ss.length := by simp at hi; omega
      subst e2
      have h1 : (ss ++ [s]).getD ss.length segZ = s := by simp
      have h2 : (vs ++ [u]).getD ss.length (.slice none 0 0) = u := by rw [← h.len]; simp
      rw [h1, h2]
      exact hk hu
theorem infoSegM : Info Try.prog 54 (.agg #[.int .i64 0, .int .i64 0, .slice none 0 0]) 3 40 := by unfold Info; kernel_rfl
theorem objs_len (l : List OpR) : ∀ (f : Nat) (last : Option Int), (objs l f last).length ≤ f
  | 0, _ => by simp [objs]
  | f + 1, last => by
    unfold objs
    cases nextO l last with
    | none => simp
    | some x =>
      have := objs_len l f (some x)
      simp only [List.length_cons]
      omega
/-- The last object, as it stands in two variables. -/
def lastN (o : Option Int) : Int := match o with | none => 0 | some z => z
def lastB (o : Option Int) : Bool := match o with | none => false | some _ => true
theorem obj_at {w : World} {b o : Nat} {x : OpR} (h : OpAt w b o x) : w.cell? ⟨b, o + 2, none⟩ = some (.int .i64 x.obj) := by
  unfold OpAt at h
  exact h.2.2.1
set_option maxRecDepth 100000 in
set_option maxHeartbeats 8000000 in
theorem Objects_c (l : List OpR) (v : Value) (w : World) (hv : Ops w v l) (hl64 : l.length ≤ 1000) :
    Calls Try.prog 23 #[v] w fun e w' => ∃ v' vs, e = .returned v' ∧ SegsAt w.heap.size w' v' (objectsL l) vs ∧ Grow w w' := by
  have HV := hid hv
  have HNX := hid (fun last k h => nextF_take (l := l) (last := last) (k := k) h)
  have HMI := hid (fun x k h => mine_take (l := l) (x := x) (k := k) h)
  have HML := hid (fun x => mine_len l x)
  have HMK := hid (fun x k => show (mineL (l.take k) x).length ≤ k from Nat.le_trans (mine_len _ _) (List.length_take_le _ _))
  have HST := hid (fun f last h => objs_step (l := l) (f := f) (last := last) h)
  have HCL := hid (fun last x h => count_lt (l := l) (last := last) (x := x) h)
  have HOL := hid (fun f last => objs_len l f last)
  have HTK := hid (show l.take l.length = l from List.take_length)
  have HNS := hid (fun last x h => nextO_some (l := l) (last := last) (x := x) h)
  have HSC := hid (fun x v w h => Sorted_c (mineL l x) v w h (Nat.le_trans (mine_len l x) hl64))
  have hob : objectsL l = [] ++ objs l (l.length + 1) none := rfl
  have HOB := hid hob
  have hcz := count_le l
  have HOLN := hid (show (objectsL l).length ≤ l.length + 1 from objs_len l _ _)
  obtain ⟨p, cap, rfl, hl, hc⟩ := hv.read
  have HC := hid hc
  obtain ⟨i0, hi0, hz0, hz1, hz2⟩ := info_parts infoSegM
  clear hc hv hl hob
  generalize hN : l.length = n at *
  clear hN
  go_enter Try.func23, Try.ntmps23
  go_wp2_with fail
  go_loopw [3, 4, 5] (fun s a b wr => ∃ (S : List SegR) (vs : List Value) (f : Nat) (last : Option Int), a = .int .i64 (lastN last) ∧ b = .bool (lastB last) ∧ Hid (SegsAt w.heap.size wr s S vs) ∧ Hid (objectsL l = S ++ objs l f last) ∧ countP l last < f ∧ f ≤ n + 1 ∧ Hid (Grow w wr) ∧ S.length + f ≤ n + 1) (fun s a b w' => n + 1 - (match s with | .slice _ m _ => m | _ => 0))
  case atStart => exact ⟨[], [], n + 1, none, rfl, rfl, hid SegsAt.nil, HOB, by omega, by omega, hid (Grow.refl _), by simp⟩
  case round =>
    obtain ⟨S, vs, f, last, rfl, rfl, HSe, HOb, hf, hfn, HGr, hSf⟩ := hrel
    obtain ⟨sA, sk, rfl⟩ := own_formM HSe.out.own
    have hn1 : (objs l f last).length ≤ f := HOL.out f last
    have hstep := HST.out f last hf
    have HSTEP := hid hstep
    have HCL1 := hid (fun x h => HCL.out last x h)
    have HNX1 := hid (fun k h => HNX.out last k h)
    have HNS1 := hid (fun x h => HNS.out last x h)
    clear hstep hn1
    go_upto_region 4 with fail
    go_cut [8] from 8 to 81 (fun s w2 => s = .int .i64 0 ∧ w2 = wr)
    case first =>
      go_wp2_with fail
      go_meet
      exact ⟨rfl, rfl⟩
    obtain ⟨rfl, hcw⟩ := hcut
    rw [hcw]
    clear hcw
    go_step
    go_cut [6, 7] from 8 to 81 (fun a b w2 => a = .int .i64 (lastN (nextO l last)) ∧ b = .bool (lastB (nextO l last)) ∧ w2 = wr)
    case first =>
      go_wp2_with fail
      go_loopw [6, 7, 8] (fun a b s w2 => ∃ k : Nat, k ≤ n ∧ s = .int .i64 (k : Int) ∧ a = .int .i64 (lastN ((l.take k).foldl (nextF last) none)) ∧ b = .bool (lastB ((l.take k).foldl (nextF last) none)) ∧ w2 = wr) (fun _ _ s _ => n - (intOf s).toNat)
      case atStart => exact ⟨0, by omega, rfl, rfl, rfl, rfl⟩
      case round =>
        obtain ⟨k, hk, rfl, rfl, rfl, hw2⟩ := hrel
        subst hw2
        by_cases hkn : k < n
        · obtain ⟨b, off, rfl, hat⟩ := HC.out k hkn
          have hq0 : (0 : Int) ≤ (k : Int) := by omega
          have hq1 : (k : Int) < (n : Int) := by omega
          have hnx := HNX1.out k hkn
          have c2 := HGr.out.cell (obj_at hat)
          generalize (l.take k).foldl (nextF last) none = acc at *
          generalize opAt l k = o at *
          have HA2 := hid hnx
          clear hat
          cases last with
          | none =>
            cases acc with
            | none =>
              have h2 := HA2.out.trans (show nextF _ _ o = some o.obj by simp [nextF, pastB, lessB])
              have H2 := hid h2
              clear h2 hnx
              dsimp only [lastN, lastB]
              go_wp2_with fail
              go_roundw
              case rel => exact ⟨k + 1, by omega, by go_num, by rw [H2.out], by rw [H2.out], trivial⟩
              case measure => (simp [intOf]; try omega)
            | some y =>
              by_cases hy : o.obj < y
              · have q1 := decide_eq_true hy
                have h2 := HA2.out.trans (show nextF _ _ o = some o.obj by simp [nextF, pastB, lessB, hy])
                have H2 := hid h2
                clear h2 hy hnx
                dsimp only [lastN, lastB]
                go_wp2_with fail
                go_roundw
                case rel => exact ⟨k + 1, by omega, by go_num, by rw [H2.out], by rw [H2.out], trivial⟩
                case measure => (simp [intOf]; try omega)
              · have q1 := decide_eq_false hy
                have h2 := HA2.out.trans (show nextF _ _ o = some y by simp [nextF, pastB, lessB, hy])
                have H2 := hid h2
                clear h2 hy hnx
                dsimp only [lastN, lastB]
                go_wp2_with fail
                go_roundw
                case rel => exact ⟨k + 1, by omega, by go_num, by rw [H2.out], by rw [H2.out], trivial⟩
                case measure => (simp [intOf]; try omega)
          | some z =>
            by_cases hz : z < o.obj
            · have q0 := decide_eq_true hz
              cases acc with
              | none =>
                have h2 := HA2.out.trans (show nextF _ _ o = some o.obj by simp [nextF, pastB, lessB, hz])
                have H2 := hid h2
                clear h2 hz hnx
                dsimp only [lastN, lastB]
                go_wp2_with fail
                go_roundw
                case rel => exact ⟨k + 1, by omega, by go_num, by rw [H2.out], by rw [H2.out], trivial⟩
                case measure => (simp [intOf]; try omega)
              | some y =>
                by_cases hy : o.obj < y
                · have q1 := decide_eq_true hy
                  have h2 := HA2.out.trans (show nextF _ _ o = some o.obj by simp [nextF, pastB, lessB, hy, hz])
                  have H2 := hid h2
                  clear h2 hy hz hnx
                  dsimp only [lastN, lastB]
                  go_wp2_with fail
                  go_roundw
                  case rel => exact ⟨k + 1, by omega, by go_num, by rw [H2.out], by rw [H2.out], trivial⟩
                  case measure => (simp [intOf]; try omega)
                · have q1 := decide_eq_false hy
                  have h2 := HA2.out.trans (show nextF _ _ o = some y by simp [nextF, pastB, lessB, hy, hz])
                  have H2 := hid h2
                  clear h2 hy hz hnx
                  dsimp only [lastN, lastB]
                  go_wp2_with fail
                  go_roundw
                  case rel => exact ⟨k + 1, by omega, by go_num, by rw [H2.out], by rw [H2.out], trivial⟩
                  case measure => (simp [intOf]; try omega)
            · have q0 := decide_eq_false hz
              have h2 := HA2.out.trans (show nextF _ _ o = acc by simp [nextF, pastB, lessB, hz])
              have H2 := hid h2
              clear h2 hz hnx
              dsimp only [lastN, lastB]
              go_wp2_with fail
              go_roundw
              case rel => exact ⟨k + 1, by omega, by go_num, by rw [H2.out], by rw [H2.out], trivial⟩
              case measure => (simp [intOf]; try omega)
        · have hkn2 : k = n := by omega
          have hq1 : ¬ (k : Int) < (n : Int) := by omega
          have hL : (l.take k).foldl (nextF last) none = nextO l last := by rw [hkn2, HTK.out]; rfl
          rw [hL]
          clear hkn2 hL
          go_wp2_with fail
          go_meet
          exact ⟨rfl, rfl, rfl⟩
    obtain ⟨rfl, rfl, hw2⟩ := hcut
    rw [hw2]
    clear hw2
    generalize lastN last = zl
    generalize lastB last = bl
    cases hno : nextO l last with
    | none =>
      have hs2 := HSTEP.out
      rw [hno] at hs2
      dsimp only at hs2
      have hfin := HOb.out
      rw [hs2, List.append_nil] at hfin
      have HFin := hid hfin
      clear hs2 hfin hno
      rw [show lastN none = 0 from rfl, show lastB none = false from rfl]
      go_wp2_with fail
      go_ret
      exact ⟨_, vs, rfl, by rw [HFin.out]; exact HSe.out, HGr.out⟩
    | some x =>
      have hs2 := HSTEP.out
      rw [hno] at hs2
      dsimp only at hs2
      have hob2 := HOb.out
      rw [hs2] at hob2
      have hct := HCL1.out x hno
      obtain ⟨o0, ho0, hx0, -⟩ := HNS1.out x hno
      have hpos := hid (mine_pos ho0 hx0)
      have HOB2 := hid hob2
      have HMI1 := hid (fun k h => HMI.out x k h)
      have HMK1 := hid (fun k => HMK.out x k)
      have HSC1 := hid (fun v w h => HSC.out x v w h)
      have HML1 := HML.out x
      clear hs2 hob2 hno ho0 hx0
      rw [show lastN (some x) = x from rfl, show lastB (some x) = true from rfl]
      go_upto_region 12 with fail
      go_cut [9, 10] from 11 to 81 (fun a s w2 => a = .slice none 0 0 ∧ s = .int .i64 0 ∧ w2 = wr)
      case first =>
        go_wp2_with fail
        go_meet
        exact ⟨rfl, rfl, rfl⟩
      obtain ⟨rfl, rfl, hcw⟩ := hcut
      rw [hcw]
      clear hcw
      go_step
      obtain ⟨B1, hB1⟩ : ∃ B, B = wr.heap.size := ⟨_, rfl⟩
      have HB1 := hid hB1
      clear hB1
      go_cut [9] from 10 to 81 (fun a w2 => Hid (w2.ownsRow B1 52 11 a (mineL l x).length (opCells (mineL l x))) ∧ Grow wr w2)
      case first =>
        go_wp2_with fail
        go_loopw [9, 10] (fun a s w2 => ∃ k : Nat, k ≤ n ∧ s = .int .i64 (k : Int) ∧ Hid (w2.ownsRow B1 52 11 a (mineL (l.take k) x).length (opCells (mineL (l.take k) x))) ∧ Grow wr w2) (fun _ s _ => n - (intOf s).toNat)
        case atStart => exact ⟨0, by omega, rfl, hid (World.ownsRow_nil _ _ _ _), Grow.refl _⟩
        case round =>
          obtain ⟨k, hk, rfl, HM, hg2⟩ := hrel
          by_cases hkn : k < n
          · obtain ⟨b, off, rfl, hat⟩ := HC.out k hkn
            have hq0 : (0 : Int) ≤ (k : Int) := by omega
            have hq1 : (k : Int) < (n : Int) := by omega
            have hmi := HMI1.out k hkn
            have hmk := HMK1.out k
            generalize opAt l k = o at *
            obtain ⟨oid, oproc, oobj, okind, ometh, oarg, osec, odone, ores, oinv, oret⟩ := o
            dsimp only at hmi
            generalize hmm : mineL (l.take k) x = mine at *
            unfold OpAt at hat
            dsimp only at hat
            obtain ⟨c0, c1, c2, c3, c4, c5, c6, c7, c8, c9, c10⟩ := hat
            have hgw := Grow.trans HGr.out hg2
            replace c0 := hgw.cell c0
            replace c1 := hgw.cell c1
            replace c2 := hgw.cell c2
            replace c3 := hgw.cell c3
            replace c4 := hgw.cell c4
            replace c5 := hgw.cell c5
            replace c6 := hgw.cell c6
            replace c7 := hgw.cell c7
            replace c8 := hgw.cell c8
            replace c9 := hgw.cell c9
            replace c10 := hgw.cell c10
            clear hgw hmm
            by_cases hox : oobj = x
            · have q : (oobj == x) = true := by simpa using hox
              rw [if_pos hox] at hmi
              have HMI2 := hid hmi
              have HG2 := hid hg2
              have HBw : Hid (B1 ≤ wr.heap.size) := hid (by rw [HB1.out]; exact hg2.size)
              clear hmi hox
              generalize hml : mine.length = m at *
              have HML2 := hid hml
              clear hml
              go_wp2_with (at_builtin; refine wpList_append_ops rfl _ _ rfl B1 _ m mine rfl (own_growO HM.out (Grow.alloc wr (.cells #[.int .i64 oid, .int .i64 oproc, .int .i64 oobj, .int .i64 okind, .int .i64 ometh, .int .i64 oarg, .int .i64 osec, .bool odone, .int .i64 ores, .int .i64 oinv, .int .i64 oret] 52))) (some ⟨wr.heap.size, 0, none⟩) 1 1 [(⟨oid, oproc, oobj, okind, ometh, oarg, osec, odone, ores, oinv, oret⟩ : OpR)] rfl (Ops.one (heap_new wr _)) (by omega) (Nat.le_trans HBw.out (Grow.alloc wr (.cells #[.int .i64 oid, .int .i64 oproc, .int .i64 oobj, .int .i64 okind, .int .i64 ometh, .int .i64 oarg, .int .i64 osec, .bool odone, .int .i64 ores, .int .i64 oinv, .int .i64 oret] 52)).size) ?_)
              intro v3 w3 ho3 hg3
              have g3 := (Grow.trans HG2.out (Grow.alloc wr (.cells #[.int .i64 oid, .int .i64 oproc, .int .i64 oobj, .int .i64 okind, .int .i64 ometh, .int .i64 oarg, .int .i64 osec, .bool odone, .int .i64 ores, .int .i64 oinv, .int .i64 oret] 52))).grown hg3 (Nat.le_trans HG2.out.size (Grow.alloc wr (.cells #[.int .i64 oid, .int .i64 oproc, .int .i64 oobj, .int .i64 okind, .int .i64 ometh, .int .i64 oarg, .int .i64 osec, .bool odone, .int .i64 ores, .int .i64 oinv, .int .i64 oret] 52)).size) (fun q hq => by rw [← HB1.out]; exact (HM.out.lt q hq).1)
              have HO3 := hid (show w3.ownsRow B1 52 11 v3 (mineL (l.take (k + 1)) x).length (opCells (mineL (l.take (k + 1)) x)) from by
                rw [HMI2.out, List.length_append, HML2.out]
                exact ho3)
              have G3 := hid g3
              clear ho3 hg3 g3
              go_wp2_with fail
              go_roundw
              case rel => exact ⟨k + 1, by omega, by go_num, HO3, G3.out⟩
              case measure => (simp [intOf]; try omega)
            · have q : (oobj == x) = false := by simpa using hox
              rw [if_neg hox, List.append_nil] at hmi
              have HMI2 := hid hmi
              have HG2 := hid hg2
              clear hmi hox
              go_wp2_with fail
              go_roundw
              case rel => exact ⟨k + 1, by omega, by go_num, by rw [HMI2.out]; exact HM, HG2.out⟩
              case measure => (simp [intOf]; try omega)
          · have hkn2 : k = n := by omega
            have hq1 : ¬ (k : Int) < (n : Int) := by omega
            have hL : l.take k = l := by rw [hkn2]; exact HTK.out
            rw [hL] at HM
            have HG2 := hid hg2
            clear hkn2 hL hg2
            go_wp2_with fail
            go_meet
            exact ⟨HM, HG2.out⟩
      obtain ⟨HMine, gM⟩ := hcut
      have HGM := hid gM
      have HSC2 := hid (HSC1.out u9 wc (Ops.of_own HMine.out (by omega)))
      have hsl : (sortedL (mineL l x)).length = (mineL l x).length := sortedL_len _
      have HSL := hid hsl
      generalize hM : (mineL l x).length = M at *
      clear hsl HSC1 gM
      go_wp2_with fail
      refine (HSC2.out).mono ?_
      rintro e w3 ⟨vS, rfl, oS, gS⟩
      have hM0 := hpos.out
      obtain ⟨sg, sc, rfl, hsg1, hsg2⟩ := oS.form hM0
      have hck := (Ops.of_own oS (by omega)).cellsAt 0 hM0
      obtain ⟨b', off', eb, hat⟩ := hck
      cases eb
      obtain ⟨kd, hkd⟩ : ∃ kd, kd = (opAt (sortedL (mineL l x)) 0).kind := ⟨_, rfl⟩
      have ck : w3.cell? ⟨sg, 3, none⟩ = some (.int .i64 kd) := by
        rw [hkd]
        unfold OpAt at hat
        simpa using hat.2.2.2.1
      have hM1 : (0 : Int) < (M : Int) := by omega
      have HKD := hid hkd
      have G3 := hid (Grow.trans HGr.out (Grow.trans HGM.out gS))
      have HS3 := hid (HSe.out.grow (Grow.trans HGM.out gS))
      have HO3 := hid (own_monoO oS (Nat.le_trans (Below.size HGr.out) (Below.size HGM.out)))
      clear hkd hat oS gS hsg1 hsg2
      have hS1 : S.length ≤ 1001 := by omega
      go_wp2_with (at_builtin; refine wpList_append_lies (P := Try.prog) _ rfl _ _ 49 rfl w.heap.size 54 i0 _ 3 40 Try.underlying49 hi0 hz0 hz1 hz2 rfl (by omega) (.slice sA S.length sk) S.length (segCells S vs) rfl (own_growO HS3.out.own (Grow.alloc w3 (.cells #[.int .i64 x, .int .i64 kd, .slice (some ⟨sg, 0, none⟩) M sc] 54))) ⟨w3.heap.size, 0, none⟩ 1 1 [.int .i64 x, .int .i64 kd, .slice (some ⟨sg, 0, none⟩) M sc] rfl rfl (World.news_of_block (cs := #[.int .i64 x, .int .i64 kd, .slice (some ⟨sg, 0, none⟩) M sc]) (heap_new w3 _)) (by simp [Value.oneCell']) (by omega) (by unfold maxLen; omega) (by omega) (Nat.le_trans G3.out.size (Grow.alloc w3 (.cells #[.int .i64 x, .int .i64 kd, .slice (some ⟨sg, 0, none⟩) M sc] 54)).size) _ rfl ?_)
      intro g4 cap4 w4 hown hgr hat hlt
      have G4 := hid ((Grow.trans G3.out (Grow.alloc w3 (.cells #[.int .i64 x, .int .i64 kd, .slice (some ⟨sg, 0, none⟩) M sc] 54))).grown hgr (Nat.le_trans G3.out.size (Grow.alloc w3 (.cells #[.int .i64 x, .int .i64 kd, .slice (some ⟨sg, 0, none⟩) M sc] 54)).size) (fun q hq => (HS3.out.own.lt q hq).1))
      have HS4 := hid ((HS3.out.grow (Grow.alloc w3 (.cells #[.int .i64 x, .int .i64 kd, .slice (some ⟨sg, 0, none⟩) M sc] 54))).push (segOf l x) (.slice (some ⟨sg, 0, none⟩) M sc) (by rw [show (segOf l x).obj = x from rfl, show (segOf l x).kind = kd from HKD.out.symm]; exact hown) hgr (by rw [show (segOf l x).ops = sortedL (mineL l x) from rfl, HSL.out]; exact own_growO HO3.out (Grow.alloc w3 (.cells #[.int .i64 x, .int .i64 kd, .slice (some ⟨sg, 0, none⟩) M sc] 54))))
      have HOB3 := hid (show objectsL l = (S ++ [segOf l x]) ++ objs l (f - 1) (some x) by rw [HOB2.out, List.append_assoc]; rfl)
      clear hown hgr hat hlt
      go_wp2_with fail
      go_roundw
      case rel => exact ⟨S ++ [segOf l x], _, f - 1, some x, rfl, rfl, HS4, HOB3, by omega, by omega, G4, by simp; omega⟩
      case measure => (simp; try omega)
end Go.Proofs.Ytlhgdbangnohjaa
namespace Go.Proofs.Ytlhgdbangnohjaa
open Go.RowKit
set_option linter.unusedVariables false
set_option linter.unusedSimpArgs false
theorem id_at {w : World} {b o : Nat} {x : OpR} (h : OpAt w b o x) : w.cell? ⟨b, o, none⟩ = some (.int .i64 x.id) := by
  unfold OpAt at h
  exact h.1
set_option maxRecDepth 100000 in
set_option maxHeartbeats 4000000 in
theorem Find_c (l : List OpR) (x : Int) (k : Nat) (v : Value) (w : World) (hv : Ops w v l) (hk : k < l.length) (he : (opAt l k).id = x) (hmin : ∀ j, j < k → (opAt l j).id ≠ x) :
    Calls Try.prog 34 #[v, .int .i64 x] w fun e w' => e = .returned (.int .i64 (k : Int)) ∧ w = w' := by
  obtain ⟨p, cap, rfl, hl, hc⟩ := hv.read
  have HC := hid hc
  have HE := hid he
  have HM := hid hmin
  clear hc hv he hmin
  generalize hN : l.length = n at *
  clear hN
  go_enter Try.func34, Try.ntmps34
  go_wp2_with fail
  go_loopw [5] (fun s wr => ∃ j : Nat, j ≤ k ∧ s = .int .i64 (j : Int) ∧ w = wr) (fun s _ => n - (intOf s).toNat)
  case atStart => exact ⟨0, by omega, rfl, rfl⟩
  case round =>
    obtain ⟨j, hj, rfl, rfl⟩ := hrel
    have hlt : j < n := by omega
    obtain ⟨b, off, rfl, ha⟩ := HC.out j hlt
    have hk0 : (0 : Int) ≤ (j : Int) := by omega
    have hk1 : (j : Int) < (n : Int) := by omega
    have c0 := id_at ha
    clear ha
    by_cases hjk : j = k
    · have hq : ((opAt l j).id == x) = true := by rw [hjk, HE.out]; simp
      have HJ := hid hjk
      clear hjk
      generalize (opAt l j).id = y at *
      go_wp2_with fail
      go_ret
      exact ⟨by rw [HJ.out]; rfl, rfl⟩
    · have hq : ((opAt l j).id == x) = false := by simpa using HM.out j (by omega)
      generalize (opAt l j).id = y at *
      have HJ := hid hjk
      clear hjk
      go_wp2_with fail
      go_roundw
      case rel => exact ⟨j + 1, by have := HJ.out; omega, by go_num, trivial⟩
      case measure => (simp [intOf]; try omega)
end Go.Proofs.Ytlhgdbangnohjaa
namespace Go.Proofs.Ytlhgdbangnohjaa
open Go.RowKit
set_option linter.unusedVariables false
/-- The state behind operations, one after the other. -/
def runsL (xs : List Int) : List OpR → List Int × Bool
  | [] => (xs, true)
  | o :: l => if (stepL xs o).2 = false then ([], false) else runsL (stepL xs o).1 l
theorem runsL_append (a b : List OpR) : ∀ xs, runsL xs (a ++ b) = if (runsL xs a).2 = false then ([], false) else runsL (runsL xs a).1 b := by
  induction a with
  | nil => intro xs; simp [runsL]
  | cons o a ih =>
    intro xs
    rw [List.cons_append]
    by_cases h : (stepL xs o).2 = false
    · have e1 : runsL xs (o :: (a ++ b)) = ([], false) := by simp [runsL, h]
      have e2 : runsL xs (o :: a) = ([], false) := by simp [runsL, h]
      rw [e1, e2]
      rfl
    · have e1 : runsL xs (o :: (a ++ b)) = runsL (stepL xs o).1 (a ++ b) := by simp [runsL, h]
      have e2 : runsL xs (o :: a) = runsL (stepL xs o).1 a := by simp [runsL, h]
      rw [e1, e2]
      exact ih _
theorem insL_memR {x y : Int} : ∀ {l : List Int}, y ∈ insL x l → y = x ∨ y ∈ l
  | [], h => by simp [insL] at h; exact .inl h
  | z :: l, h => by
    unfold insL at h
    split at h
    · rcases List.mem_cons.1 h with h | h
      · exact .inl h
      · exact .inr h
    · rcases List.mem_cons.1 h with h | h
      · exact .inr (h ▸ List.mem_cons_self ..)
      · rcases insL_memR h with h | h
        · exact .inl h
        · exact .inr (List.mem_cons_of_mem _ h)
theorem insL_riseR {x : Int} : ∀ {l : List Int}, l.Pairwise (· < ·) → x ∉ l → (insL x l).Pairwise (· < ·)
  | [], _, _ => by simp [insL]
  | z :: l, h, hx => by
    have hp := List.pairwise_cons.1 h
    unfold insL
    split
    · refine List.pairwise_cons.2 ⟨fun y hy => ?_, h⟩
      rcases List.mem_cons.1 hy with rfl | hy
      · assumption
      · have := hp.1 y hy; omega
    · refine List.pairwise_cons.2 ⟨fun y hy => ?_, insL_riseR hp.2 (fun h => hx (List.mem_cons_of_mem _ h))⟩
      rcases insL_memR hy with rfl | hy
      · have : y ≠ z := fun e => hx (e ▸ List.mem_cons_self ..)
        omega
      · exact hp.1 y hy
theorem insL_length (x : Int) : ∀ l : List Int, (insL x l).length = l.length + 1
  | [] => rfl
  | z :: l => by
    unfold insL
    split
    · simp
    · simp [insL_length x l]
theorem setL_rise {xs : List Int} {o : OpR} (h : xs.Pairwise (· < ·)) : (setL xs o).1.Pairwise (· < ·) := by
  unfold setL
  repeat' split
  all_goals first | exact h | exact insL_riseR h (by assumption) | exact h.filter _ | exact List.Pairwise.nil
theorem stepL_rise {xs : List Int} {o : OpR} (hk : o.kind = 5) (h : xs.Pairwise (· < ·)) : (stepL xs o).1.Pairwise (· < ·) := by
  have e : doL xs o = setL xs o := by simp [doL, hk]
  unfold stepL
  split
  · exact List.Pairwise.nil
  · rw [e]; exact setL_rise h
theorem doL_length (xs : List Int) (o : OpR) : (doL xs o).1.length ≤ xs.length + 1 := by
  unfold doL
  split
  · split
    · simp
    · unfold numberL
      repeat' split
      all_goals simp
  · split
    · unfold listL
      repeat' split
      all_goals (simp; try omega)
    · split
      · unfold setL
        repeat' split
        all_goals first | (simp; done) | (rw [insL_length]; omega) | (have := List.length_filter_le (fun y => decide (y ≠ o.arg)) xs; simp only at this ⊢; omega) | (simp; omega)
      · split
        · unfold mutexL
          repeat' split
          all_goals simp
        · simp
theorem stepL_length (xs : List Int) (o : OpR) : (stepL xs o).1.length ≤ xs.length + 1 := by
  unfold stepL
  split
  · simp
  · exact doL_length xs o
theorem runsL_length : ∀ (l : List OpR) (xs : List Int), (runsL xs l).1.length ≤ xs.length + l.length
  | [], xs => by simp [runsL]
  | o :: l, xs => by
    have h1 := stepL_length xs o
    have h2 := runsL_length l (stepL xs o).1
    simp only [runsL, List.length_cons]
    split
    · simp
    · omega
theorem runsL_rise : ∀ (l : List OpR) (xs : List Int), (∀ o ∈ l, o.kind = 5) → xs.Pairwise (· < ·) → (runsL xs l).1.Pairwise (· < ·)
  | [], xs, _, h => h
  | o :: l, xs, hk, h => by
    simp only [runsL]
    split
    · exact List.Pairwise.nil
    · exact runsL_rise l _ (fun p hp => hk p (List.mem_cons_of_mem _ hp)) (stepL_rise (hk o (List.mem_cons_self ..)) h)
/-- Numbers that rise. -/
theorem rise_iff (xs : List Int) : xs.Pairwise (· < ·) ↔ ∀ i, i + 1 < xs.length → xs.getD i 0 < xs.getD (i + 1) 0 := by
  have hg : ∀ i (h : i < xs.length), xs.getD i 0 = xs[i] := fun i h => by simp [List.getD, List.getElem?_eq_getElem h]
  constructor
  · intro h i hi
    rw [hg i (by omega), hg (i + 1) hi]
    exact List.pairwise_iff_getElem.1 h i (i + 1) (by omega) hi (by omega)
  · intro h
    refine List.pairwise_iff_getElem.2 fun i j hi hj hij => ?_
    have key : ∀ d, (hd : i + d + 1 < xs.length) → xs.getD i 0 < xs.getD (i + d + 1) 0 := by
      intro d
      induction d with
      | zero => intro hd; exact h i hd
      | succ d ih =>
        intro hd
        have a := ih (by omega)
        have b := h (i + d + 1) (by omega)
        rw [show i + (d + 1) + 1 = i + d + 1 + 1 by omega]
        omega
    have := key (j - i - 1) (by omega)
    rw [show i + (j - i - 1) + 1 = j by omega, hg i hi, hg j hj] at this
    exact this
end Go.Proofs.Ytlhgdbangnohjaa
namespace Go.Proofs.Ytlhgdbangnohjaa
open Go.RowKit
set_option linter.unusedVariables false
set_option linter.unusedSimpArgs false
theorem runs_take (xs : List Int) (l : List OpR) (k : Nat) (hk : k < l.length) (h : (runsL xs (l.take k)).2 = true) :
    ((stepL (runsL xs (l.take k)).1 l[k]).2 = true → runsL xs (l.take (k + 1)) = ((stepL (runsL xs (l.take k)).1 l[k]).1, true)) ∧ ((stepL (runsL xs (l.take k)).1 l[k]).2 = false → runsL xs l = ([], false)) := by
  constructor
  · intro h2
    rw [List.take_succ_eq_append_getElem hk, runsL_append, if_neg (by rw [h]; simp)]
    simp [runsL, h2]
  · intro h2
    have e : l = l.take k ++ (l[k] :: l.drop (k + 1)) := by rw [List.getElem_cons_drop]; exact (List.take_append_drop k l).symm
    rw [e, runsL_append, if_neg (by rw [h]; simp)]
    simp [runsL, h2]
theorem DoAll_c (xs : List Int) (o : OpR) (v : Value) (w : World) (hv : Ints w v xs) (hn : xs.length < 20000000000000) (hs : o.kind = 5 → xs.Pairwise (· < ·)) : Calls Try.prog 41 #[v, .agg #[.int .i64 o.id, .int .i64 o.proc, .int .i64 o.obj, .int .i64 o.kind, .int .i64 o.meth, .int .i64 o.arg, .int .i64 o.sec, .bool o.done, .int .i64 o.res, .int .i64 o.inv, .int .i64 o.ret]] w (DoPost w.heap.size (doL xs o) w) :=
  Do_c xs o v w hv hn (fun hk v w base hb h => set_c xs o v w base hb hn (hs hk) h)
end Go.Proofs.Ytlhgdbangnohjaa
namespace Go.Proofs.Ytlhgdbangnohjaa
open Go.RowKit
set_option linter.unusedVariables false
set_option linter.unusedSimpArgs false
set_option maxRecDepth 100000 in
set_option maxHeartbeats 4000000 in
theorem RStep_c (xs : List Int) (o : OpR) (v : Value) (w : World) (hv : Ints w v xs) (hn : xs.length + 1 ≤ 17592186044416) : Calls Try.prog 49 #[v, .agg #[.int .i64 o.id, .int .i64 o.proc, .int .i64 o.obj, .int .i64 o.kind, .int .i64 o.meth, .int .i64 o.arg, .int .i64 o.sec, .bool o.done, .int .i64 o.res, .int .i64 o.inv, .int .i64 o.ret]] w (StepPost (stepL xs o) w) := by
  have HD := hid (fun (w : World) (h : Ints w v xs) => RDo_c xs o v w h hn)
  have HV := hid hv
  clear hv
  unfold stepL
  generalize doL xs o = R at *
  obtain ⟨L, N, B⟩ := R
  dsimp only at *
  obtain ⟨id, proc, obj, kind, meth, arg, sec, done, res, inv, ret⟩ := o
  dsimp only at *
  cases B
  · rw [if_pos (.inl rfl)]
    go_enter Try.func49, Try.ntmps49
    go_wp2_with fail
    refine (HD.out _ (HV.out.grow (Grow.alloc _ _))).mono ?_
    rintro e w1 ⟨v', rfl, hi, b1, -⟩
    dsimp only at hi
    have g1 := hid (Grow.trans (Grow.alloc w (.cells #[.int .i64 id, .int .i64 proc, .int .i64 obj, .int .i64 kind, .int .i64 meth, .int .i64 arg, .int .i64 sec, .bool done, .int .i64 res, .int .i64 inv, .int .i64 ret] 52)) b1)
    have hb := b1.heap (heap_new w (.cells #[.int .i64 id, .int .i64 proc, .int .i64 obj, .int .i64 kind, .int .i64 meth, .int .i64 arg, .int .i64 sec, .bool done, .int .i64 res, .int .i64 inv, .int .i64 ret] 52))
    have c7 : w1.cell? ⟨w.heap.size, 7, none⟩ = some (.bool done) := by rw [heap_cell hb]; rfl
    have c8 : w1.cell? ⟨w.heap.size, 8, none⟩ = some (.int .i64 res) := by rw [heap_cell hb]; rfl
    have hlt := heap_lt hb
    clear hb b1
    have HI := hid hi
    clear hi
    obtain ⟨p, cap, rfl, -⟩ := HI.out.at
    go_wp2_with fail
    go_ret2
    exact ⟨_, rfl, Ints.nil _, Grow.trans g1.out (Grow.alloc _ _)⟩
  · cases done
    · rw [if_neg (by simp)]
      go_enter Try.func49, Try.ntmps49
      go_wp2_with fail
      refine (HD.out _ (HV.out.grow (Grow.alloc _ _))).mono ?_
      rintro e w1 ⟨v', rfl, hi, b1, -⟩
      dsimp only at hi
      have g1 := hid (Grow.trans (Grow.alloc w (.cells #[.int .i64 id, .int .i64 proc, .int .i64 obj, .int .i64 kind, .int .i64 meth, .int .i64 arg, .int .i64 sec, .bool false, .int .i64 res, .int .i64 inv, .int .i64 ret] 52)) b1)
      have hb := b1.heap (heap_new w (.cells #[.int .i64 id, .int .i64 proc, .int .i64 obj, .int .i64 kind, .int .i64 meth, .int .i64 arg, .int .i64 sec, .bool false, .int .i64 res, .int .i64 inv, .int .i64 ret] 52))
      have c7 : w1.cell? ⟨w.heap.size, 7, none⟩ = some (.bool false) := by rw [heap_cell hb]; rfl
      have c8 : w1.cell? ⟨w.heap.size, 8, none⟩ = some (.int .i64 res) := by rw [heap_cell hb]; rfl
      have hlt := heap_lt hb
      clear hb b1
      have HI := hid hi
      clear hi
      obtain ⟨p, cap, rfl, -⟩ := HI.out.at
      go_wp2_with fail
      go_ret2
      exact ⟨_, rfl, HI.out.grow (Grow.alloc _ _), Grow.trans g1.out (Grow.alloc _ _)⟩
    · by_cases hN : N = res
      · subst hN
        rw [if_neg (by simp)]
        have hN1 : (N != N) = false := by simp
        go_enter Try.func49, Try.ntmps49
        go_wp2_with fail
        refine (HD.out _ (HV.out.grow (Grow.alloc _ _))).mono ?_
        rintro e w1 ⟨v', rfl, hi, b1, -⟩
        dsimp only at hi
        have g1 := hid (Grow.trans (Grow.alloc w (.cells #[.int .i64 id, .int .i64 proc, .int .i64 obj, .int .i64 kind, .int .i64 meth, .int .i64 arg, .int .i64 sec, .bool true, .int .i64 N, .int .i64 inv, .int .i64 ret] 52)) b1)
        have hb := b1.heap (heap_new w (.cells #[.int .i64 id, .int .i64 proc, .int .i64 obj, .int .i64 kind, .int .i64 meth, .int .i64 arg, .int .i64 sec, .bool true, .int .i64 N, .int .i64 inv, .int .i64 ret] 52))
        have c7 : w1.cell? ⟨w.heap.size, 7, none⟩ = some (.bool true) := by rw [heap_cell hb]; rfl
        have c8 : w1.cell? ⟨w.heap.size, 8, none⟩ = some (.int .i64 N) := by rw [heap_cell hb]; rfl
        have hlt := heap_lt hb
        clear hb b1
        have HI := hid hi
        clear hi
        obtain ⟨p, cap, rfl, -⟩ := HI.out.at
        go_wp2_with fail
        go_ret2
        exact ⟨_, rfl, HI.out.grow (Grow.alloc _ _), Grow.trans g1.out (Grow.alloc _ _)⟩
      · have hN1 : (N != res) = true := by simp [hN]
        rw [if_pos (.inr ⟨rfl, hN⟩)]
        go_enter Try.func49, Try.ntmps49
        go_wp2_with fail
        refine (HD.out _ (HV.out.grow (Grow.alloc _ _))).mono ?_
        rintro e w1 ⟨v', rfl, hi, b1, -⟩
        dsimp only at hi
        have g1 := hid (Grow.trans (Grow.alloc w (.cells #[.int .i64 id, .int .i64 proc, .int .i64 obj, .int .i64 kind, .int .i64 meth, .int .i64 arg, .int .i64 sec, .bool true, .int .i64 res, .int .i64 inv, .int .i64 ret] 52)) b1)
        have hb := b1.heap (heap_new w (.cells #[.int .i64 id, .int .i64 proc, .int .i64 obj, .int .i64 kind, .int .i64 meth, .int .i64 arg, .int .i64 sec, .bool true, .int .i64 res, .int .i64 inv, .int .i64 ret] 52))
        have c7 : w1.cell? ⟨w.heap.size, 7, none⟩ = some (.bool true) := by rw [heap_cell hb]; rfl
        have c8 : w1.cell? ⟨w.heap.size, 8, none⟩ = some (.int .i64 res) := by rw [heap_cell hb]; rfl
        have hlt := heap_lt hb
        clear hb b1
        have HI := hid hi
        clear hi
        obtain ⟨p, cap, rfl, -⟩ := HI.out.at
        go_wp2_with fail
        go_ret2
        exact ⟨_, rfl, Ints.nil _, Grow.trans g1.out (Grow.alloc _ _)⟩
set_option maxRecDepth 100000 in
set_option maxHeartbeats 4000000 in
theorem RRuns_c (xs : List Int) (l : List OpR) (v ov : Value) (w : World) (hv : Ints w v xs) (ho : Ops w ov l) (hn : xs.length + l.length + 1 ≤ 17592186044416) :
    Calls Try.prog 36 #[v, ov] w (StepPost (runsL xs l) w) := by
  have HS := hid (show ∀ k (hk : k < l.length) (v : Value) (w : World), Ints w v (runsL xs (l.take k)).1 → (runsL xs (l.take k)).2 = true → Calls Try.prog 49 #[v, .agg #[.int .i64 l[k].id, .int .i64 l[k].proc, .int .i64 l[k].obj, .int .i64 l[k].kind, .int .i64 l[k].meth, .int .i64 l[k].arg, .int .i64 l[k].sec, .bool l[k].done, .int .i64 l[k].res, .int .i64 l[k].inv, .int .i64 l[k].ret]] w (StepPost (stepL (runsL xs (l.take k)).1 l[k]) w) from by
    intro k hk v w h1 h2
    have hl := runsL_length (l.take k) xs
    rw [List.length_take] at hl
    exact RStep_c _ l[k] v w h1 (by omega))
  have HT := hid (fun k hk h => runs_take xs l k hk h)
  have hI := hid hv
  clear hv
  have hlen : l.length ≤ 1600000000000 := by obtain ⟨_, _, _, h, _⟩ := ho; exact h
  have HO := hid ho
  obtain ⟨p, cap, rfl, hc⟩ := ho.at
  have HA := hid hc
  have HX := hid (show xs.length ≤ 20000000000000 from hI.out.length)
  clear hc ho
  obtain ⟨n, hN⟩ : ∃ n, n = l.length := ⟨_, rfl⟩
  rw [← hN]
  have hnn : n ≤ 1600000000000 := by omega
  have HN := hid hN
  clear hN
  go_enter Try.func36, Try.ntmps36
  go_wp2_with fail
  go_loopw [6, 0] (fun i s wr => ∃ k : Nat, k ≤ n ∧ i = .int .i64 (k : Int) ∧ Hid (Ints wr s (runsL xs (l.take k)).1) ∧ Hid ((runsL xs (l.take k)).2 = true) ∧ Grow w wr) (fun i _ _ => n - (intOf i).toNat)
  case atStart => exact ⟨0, by omega, rfl, hI, hid rfl, Grow.refl _⟩
  case round =>
    obtain ⟨k, hk, rfl, HI, HK, hg⟩ := hrel
    by_cases hlt : k < n
    · obtain ⟨b, off, rfl, ha⟩ := HA.out k (by have := HN.out; omega)
      have hst := HS.out k (by have := HN.out; omega)
      have htk := HT.out k (by have := HN.out; omega) HK.out
      generalize l[k]'(by have := HN.out; omega) = o at *
      obtain ⟨id, proc, obj, kind, meth, arg, sec, done, res, inv, ret⟩ := o
      unfold OpAt at ha
      dsimp only at ha hst
      obtain ⟨c0, c1, c2, c3, c4, c5, c6, c7, c8, c9, c10⟩ := ha
      replace c0 := hg.cell c0
      replace c1 := hg.cell c1
      replace c2 := hg.cell c2
      replace c3 := hg.cell c3
      replace c4 := hg.cell c4
      replace c5 := hg.cell c5
      replace c6 := hg.cell c6
      replace c7 := hg.cell c7
      replace c8 := hg.cell c8
      replace c9 := hg.cell c9
      replace c10 := hg.cell c10
      have hk0 : (0 : Int) ≤ (k : Int) := by omega
      have hk1 : (k : Int) < (n : Int) := by omega
      have HST := hid hst
      have HTK := hid htk
      clear hst htk
      cases hS : (stepL (runsL xs (l.take k)).1 ⟨id, proc, obj, kind, meth, arg, sec, done, res, inv, ret⟩).2 with
      | true =>
        have HQ := hid hS
        clear hS
        go_wp2_with fail
        refine (HST.out _ _ HI.out HK.out).mono ?_
        rintro e w2 ⟨v2, rfl, hi2, b2⟩
        rw [HQ.out]
        go_wp2_with fail
        go_roundw
        case rel =>
          have e2 := HTK.out.1 HQ.out
          refine ⟨k + 1, by omega, by go_num, hid ?_, hid (by rw [e2]), Grow.trans hg b2⟩
          rw [e2]; exact hi2
        case measure => simp [intOf]; omega
      | false =>
        have HQ := hid hS
        clear hS
        have e3 := HTK.out.2 HQ.out
        go_wp2_with fail
        refine (HST.out _ _ HI.out HK.out).mono ?_
        rintro e w2 ⟨v2, rfl, hi2, b2⟩
        rw [HQ.out]
        go_wp2_with fail
        go_ret2
        rw [e3]
        exact ⟨_, rfl, Ints.nil _, Grow.trans hg b2⟩
    · obtain rfl : k = n := by omega
      have e4 : l.take k = l := List.take_of_length_le (by have := HN.out; omega)
      have e5 : runsL xs l = ((runsL xs (l.take k)).1, true) := by
        rw [e4] at HK ⊢
        exact Prod.ext rfl HK.out
      go_wp2_with fail
      go_ret2
      rw [e5]
      exact ⟨_, rfl, HI.out, hg⟩
end Go.Proofs.Ytlhgdbangnohjaa
namespace Go.Proofs.Ytlhgdbangnohjaa
open Go.RowKit
set_option linter.unusedVariables false
set_option linter.unusedSimpArgs false
/-- What makes an order of all operations of a list one that may be. -/
structure OrderOk (ops L : List OpR) (i0 : Nat) : Prop where
  there : ∀ i, i < L.length → ∃ k, k < ops.length ∧ opAt ops k = opAt L i ∧ ∀ j, j < k → (opAt ops j).id ≠ (opAt L i).id
  apart : ∀ i, i < L.length → ∀ j, j < i → (opAt L j).id ≠ (opAt L i).id ∧ befB (opAt L i) (opAt L j) = false
  all : ∀ m, m < ops.length → ∃ k, k < L.length ∧ (opAt L k).id = (opAt ops m).id ∧ ∀ j, j < k → (opAt L j).id ≠ (opAt ops m).id
  runs : (runsL (firstV i0) L).2 = true
theorem take_at {L : List OpR} {i j : Nat} (h : j < i) (hi : i ≤ L.length) : opAt (L.take i) j = opAt L j := by
  rw [opAt_get (show j < (L.take i).length by rw [List.length_take]; omega), opAt_get (show j < L.length by omega), List.getElem_take]
theorem Ints.cellAt {w : World} {A : Option Addr} {n c : Nat} {xs : List Int} (h : Ints w (.slice A n c) xs) : n = xs.length ∧ ∀ i, i < n → ∃ b off, A = some ⟨b, off, none⟩ ∧ w.cell? ⟨b, off + i, none⟩ = some (.int .i64 (xs.getD i 0)) := by
  obtain ⟨p, cap, e, hl, hc, hn⟩ := h
  cases e
  refine ⟨rfl, fun i hi => ?_⟩
  obtain ⟨b, off, e2, H⟩ := hc (by omega)
  refine ⟨b, off, e2, ?_⟩
  rw [H i hi, List.getD_eq_getElem?_getD, List.getElem?_eq_getElem hi]
set_option maxRecDepth 100000 in
set_option maxHeartbeats 20000000 in
theorem Valid_c (ops L : List OpR) (obj : Int) (i0 : Nat) (vo vi : Value) (w : World) (ho : Ops w vo ops) (hi : Ints w vi (L.map (·.id))) (hL : L.length ≤ 1000) (hok : OrderOk ops L i0) (h16 : i0 ≤ 100) :
    Calls Try.prog 24 #[.agg #[.int .i64 obj, .int .i64 ((i0 : Int) % 6 + 1), vo], vi] w fun e w' => e = .returned (.bool true) ∧ Grow w w' := by
  have HO := hid ho
  have HI := hid hi
  obtain ⟨po, co, rfl, hlo, hco⟩ := ho.read
  obtain ⟨pi, ci, ei, -, -, -⟩ := hi
  rw [List.length_map] at ei
  subst ei
  have HCO := hid hco
  have hci := HI.out.cellAt
  have HCI := hid hci.2
  have HTH := hid hok.there
  have HAP := hid hok.apart
  have HAL := hid hok.all
  have HRU := hid hok.runs
  have HFi := hid (fun w => RFirst_r i0 w)
  have HFindO := hid (fun x k v w (h1 : Ops w v ops) (h2 : k < ops.length) h3 h4 => Find_c ops x k v w h1 h2 h3 h4)
  have HFindL := hid (fun x k v w (h1 : Ops w v L) (h2 : k < L.length) h3 h4 => Find_c L x k v w h1 h2 h3 h4)
  have HBef := hid (fun a b w => RBefore_c a b w)
  have hfl : (firstV i0).length ≤ 1 := by
    unfold firstV
    split
    · exact Nat.le_refl _
    · exact Nat.zero_le _
  have HRuns := hid (fun (v ov : Value) (w : World) (h1 : Ints w v (firstV i0)) (h2 : Ops w ov L) => (RRuns_c (firstV i0) L v ov w h1 h2 (by omega)).mono (show ∀ e w', StepPost (runsL (firstV i0) L) w e w' → (∃ v', e = .returned (.tuple #[v', .bool true])) ∧ Grow w w' from fun e w' h => by
    obtain ⟨v', h1, -, h3⟩ := h
    rw [HRU.out] at h1
    exact ⟨⟨v', h1⟩, h3⟩))
  clear hfl
  have HTK := hid (fun k (h : k < L.length) => take_snocO h)
  have HTL := hid (show L.take L.length = L from List.take_length)
  have HIM := hid (fun i (h : i < L.length) => show (L.map (·.id)).getD i 0 = (opAt L i).id by rw [List.getD_eq_getElem?_getD, List.getElem?_map, List.getElem?_eq_getElem h, opAt_get h]; rfl)
  generalize hN : L.length = n at *
  have HLN := hid hN
  generalize hM : ops.length = m at *
  generalize hkd : (i0 : Int) % 6 + 1 = kd at *
  clear hco hci hok hN hM hkd
  obtain ⟨bx, hbx⟩ : ∃ b, b = w.heap.size := ⟨_, rfl⟩
  have HBX := hid (show ∀ wr, Grow (w.alloc (.cells #[.int .i64 obj, .int .i64 kd, .slice po m co] 54)) wr → wr.heap[bx]? = some (.cells #[.int .i64 obj, .int .i64 kd, .slice po m co] 54 (0, 0)) from fun wr h => by rw [hbx]; exact h.heap (heap_new w _))
  have HG1 := hid (Grow.alloc w (.cells #[.int .i64 obj, .int .i64 kd, .slice po m co] 54))
  go_enter Try.func24, Try.ntmps24
  go_upto_region 2 with fail
  rw [← hbx]
  generalize w.alloc (.cells #[.int .i64 obj, .int .i64 kd, .slice po m co] 54) = W1 at *
  clear hbx
  --GEN
  go_upto_region 2 with fail
  go_cut [5, 6] from 12 (fun a s wr => a = .slice none 0 0 ∧ s = .int .i64 0 ∧ wr = W1)
  case first =>
    go_wp2_with fail
    go_meet
    exact ⟨rfl, rfl, rfl⟩
  obtain ⟨rfl, rfl, hw⟩ := hcut
  rw [hw]
  clear hw
  go_step
  go_cut [5] from 6 (fun a wr => Hid (wr.ownsRow W1.heap.size 52 11 a n (opCells L)) ∧ Grow W1 wr)
  case first =>
    go_wp2_with fail
    go_loopw [5, 6] (fun a s wr => ∃ i : Nat, i ≤ n ∧ s = .int .i64 (i : Int) ∧ Hid (wr.ownsRow W1.heap.size 52 11 a i (opCells (L.take i))) ∧ Grow W1 wr) (fun _ s _ => n - (intOf s).toNat)
    case atStart => exact ⟨0, by omega, rfl, hid (World.ownsRow_nil _ _ _ _), Grow.refl _⟩
    case round =>
      obtain ⟨i, hi, rfl, HOw, hgr⟩ := hrel
      obtain ⟨aA, ka, rfl⟩ := own_formM HOw.out
      by_cases hlt : i < n
      · have hi0 : (0 : Int) ≤ (i : Int) := by omega
        have hi1 : (i : Int) < (n : Int) := by omega
        obtain ⟨k, hk, hok, hkm⟩ := HTH.out i hlt
        obtain ⟨ib, io, rfl, hic⟩ := HCI.out i hlt
        rw [HIM.out i hlt] at hic
        obtain ⟨ob, oo, rfl, hoa⟩ := HCO.out k hk
        have htk := HTK.out i hlt
        have hap := HAP.out i hlt
        rw [hok] at hoa
        have HFk := hid (fun (w' : World) (hv : Ops w' (.slice (some ⟨ob, oo, none⟩) m co) ops) => HFindO.out (opAt L i).id k _ w' hv hk (by rw [hok]) hkm)
        clear hkm hok
        generalize opAt L i = o at *
        obtain ⟨oid, oproc, oobj, okind, ometh, oarg, osec, odone, ores, oinv, oret⟩ := o
        dsimp only at hic HFk hap
        have HTKI := hid htk
        have HAPI := hid hap
        unfold OpAt at hoa
        dsimp only at hoa
        have HOA := hid hoa
        have HIC := hid hic
        have HGR := hid hgr
        have cx : wr.cell? ⟨bx, 2, none⟩ = some (.slice (some ⟨ob, oo, none⟩) m co) := by rw [heap_cell (HBX.out wr hgr)]; rfl
        have ci2 := (Grow.trans HG1.out hgr).cell hic
        have HVO := hid (HO.out.grow (Grow.trans HG1.out (Grow.trans hgr (Grow.drew wr))))
        clear hoa hic htk hap hgr
        have hk0 : (0 : Int) ≤ (k : Int) := by omega
        have hk1 : (k : Int) < (m : Int) := by omega
        go_upto_region 5 with fail
        go_cut [7] from 12 to 60 (fun s w2 => s = .int .i64 (k : Int) ∧ Grow wr w2)
        case first =>
          go_region_held3 (fun w' => w'.cell? ⟨bx, 2, none⟩ = some (.slice (some ⟨ob, oo, none⟩) m co) ∧ w'.cell? ⟨ib, io + i, none⟩ = some (.int .i64 oid))
            (first | (with_reducible exact ⟨cell_drew cx, cell_drew ci2⟩) | (with_reducible exact ⟨cx, ci2⟩))
            ((go_at_call 34
              refine (HFk.out _ HVO.out).mono ?_
              rintro e w5 ⟨rfl, rfl⟩))
          all_goals (go_wp2_with fail; go_meet)
          all_goals exact ⟨rfl, Grow.drew _⟩
        obtain ⟨rfl, g2⟩ := hcut
        have hneg : ¬ (k : Int) < 0 := by omega
        have HG2 := hid (Grow.trans HGR.out g2)
        have HOw2 := hid (own_growO HOw.out g2)
        clear cx ci2 HVO HFk g2 HOw
        go_upto_region 8 with fail
        go_cut [8] from 12 to 60 (fun s w2 => s = .int .i64 0 ∧ w2 = wc)
        case first =>
          go_wp2_with fail
          go_meet
          exact ⟨rfl, rfl⟩
        obtain ⟨rfl, hw⟩ := hcut
        subst hw
        go_step
        go_cut [] from 12 to 60 (fun w2 => Grow wc w2)
        case first =>
          go_wp2_with fail
          go_loopw [8] (fun s w2 => ∃ j : Nat, j ≤ i ∧ s = .int .i64 (j : Int) ∧ Grow wc w2) (fun s _ => i - (intOf s).toNat)
          case atStart => exact ⟨0, by omega, rfl, Grow.refl _⟩
          case round =>
            obtain ⟨j, hj, rfl, hgj⟩ := hrel
            by_cases hji : j < i
            · have hj0 : (0 : Int) ≤ (j : Int) := by omega
              have hj1 : (j : Int) < (n : Int) := by omega
              have hj2 : (j : Int) < (i : Int) := by omega
              have hgw := Grow.trans HG1.out (Grow.trans HG2.out hgj)
              obtain ⟨ib2, io2, e1, hjc⟩ := HCI.out j (by omega)
              cases e1
              rw [HIM.out j (by omega)] at hjc
              have ci1 := hgw.cell hjc
              have ci2 := hgw.cell HIC.out
              have cx : wr.cell? ⟨bx, 2, none⟩ = some (.slice (some ⟨ob, oo, none⟩) m co) := by rw [heap_cell (HBX.out wr (Grow.trans HG2.out hgj))]; rfl
              obtain ⟨d0, d1, d2, d3, d4, d5, d6, d7, d8, d9, d10⟩ := HOA.out
              (replace d0 := hgw.cell d0; replace d1 := hgw.cell d1; replace d2 := hgw.cell d2; replace d3 := hgw.cell d3; replace d4 := hgw.cell d4; replace d5 := hgw.cell d5; replace d6 := hgw.cell d6; replace d7 := hgw.cell d7; replace d8 := hgw.cell d8; replace d9 := hgw.cell d9; replace d10 := hgw.cell d10)
              obtain ⟨ab, ao, rfl, haj⟩ := (Ops.of_own (own_growO HOw2.out hgj) (by omega)).cellsAt j hji
              have haj2 : opAt (L.take i) j = opAt L j := take_at hji (by rw [HLN.out]; omega)
              rw [haj2] at haj
              obtain ⟨hne, hbf⟩ := HAPI.out j hji
              generalize opAt L j = p at *
              obtain ⟨pid, pproc, pobj, pkind, pmeth, parg, psec, pdone, pres, pinv, pret⟩ := p
              unfold OpAt at haj
              dsimp only at haj hne ci1
              obtain ⟨e0, e1, e2, e3, e4, e5, e6, e7, e8, e9, e10⟩ := haj
              have hq : (pid == oid) = false := by simpa using hne
              have HBf := hid (HBef.out ⟨oid, oproc, oobj, okind, ometh, oarg, osec, odone, ores, oinv, oret⟩ ⟨pid, pproc, pobj, pkind, pmeth, parg, psec, pdone, pres, pinv, pret⟩ wr.drew)
              rw [hbf] at HBf
              have HGJ := hid hgj
              clear hjc hgw haj2 hne hbf hgj
              dsimp only at HBf
              go_upto_region 11 with fail
              go_cut [52] from 27 to 52 (fun s w2 => s = .bool false ∧ Grow wr w2)
              case first =>
                go_region_held3 (fun w' => w'.cell? ⟨ib, io + j, none⟩ = some (.int .i64 pid) ∧ w'.cell? ⟨ib, io + i, none⟩ = some (.int .i64 oid) ∧ w'.cell? ⟨bx, 2, none⟩ = some (.slice (some ⟨ob, oo, none⟩) m co) ∧ w'.cell? ⟨ob, oo + k * 11, none⟩ = some (.int .i64 oid) ∧ w'.cell? ⟨ob, oo + k * 11 + 1, none⟩ = some (.int .i64 oproc) ∧ w'.cell? ⟨ob, oo + k * 11 + 2, none⟩ = some (.int .i64 oobj) ∧ w'.cell? ⟨ob, oo + k * 11 + 3, none⟩ = some (.int .i64 okind) ∧ w'.cell? ⟨ob, oo + k * 11 + 4, none⟩ = some (.int .i64 ometh) ∧ w'.cell? ⟨ob, oo + k * 11 + 5, none⟩ = some (.int .i64 oarg) ∧ w'.cell? ⟨ob, oo + k * 11 + 6, none⟩ = some (.int .i64 osec) ∧ w'.cell? ⟨ob, oo + k * 11 + 7, none⟩ = some (.bool odone) ∧ w'.cell? ⟨ob, oo + k * 11 + 8, none⟩ = some (.int .i64 ores) ∧ w'.cell? ⟨ob, oo + k * 11 + 9, none⟩ = some (.int .i64 oinv) ∧ w'.cell? ⟨ob, oo + k * 11 + 10, none⟩ = some (.int .i64 oret) ∧ w'.cell? ⟨ab, ao + j * 11, none⟩ = some (.int .i64 pid) ∧ w'.cell? ⟨ab, ao + j * 11 + 1, none⟩ = some (.int .i64 pproc) ∧ w'.cell? ⟨ab, ao + j * 11 + 2, none⟩ = some (.int .i64 pobj) ∧ w'.cell? ⟨ab, ao + j * 11 + 3, none⟩ = some (.int .i64 pkind) ∧ w'.cell? ⟨ab, ao + j * 11 + 4, none⟩ = some (.int .i64 pmeth) ∧ w'.cell? ⟨ab, ao + j * 11 + 5, none⟩ = some (.int .i64 parg) ∧ w'.cell? ⟨ab, ao + j * 11 + 6, none⟩ = some (.int .i64 psec) ∧ w'.cell? ⟨ab, ao + j * 11 + 7, none⟩ = some (.bool pdone) ∧ w'.cell? ⟨ab, ao + j * 11 + 8, none⟩ = some (.int .i64 pres) ∧ w'.cell? ⟨ab, ao + j * 11 + 9, none⟩ = some (.int .i64 pinv) ∧ w'.cell? ⟨ab, ao + j * 11 + 10, none⟩ = some (.int .i64 pret))
                  (first | (with_reducible exact ⟨cell_drew ci1, cell_drew ci2, cell_drew cx, cell_drew d0, cell_drew d1, cell_drew d2, cell_drew d3, cell_drew d4, cell_drew d5, cell_drew d6, cell_drew d7, cell_drew d8, cell_drew d9, cell_drew d10, cell_drew e0, cell_drew e1, cell_drew e2, cell_drew e3, cell_drew e4, cell_drew e5, cell_drew e6, cell_drew e7, cell_drew e8, cell_drew e9, cell_drew e10⟩) | (with_reducible exact ⟨ci1, ci2, cx, d0, d1, d2, d3, d4, d5, d6, d7, d8, d9, d10, e0, e1, e2, e3, e4, e5, e6, e7, e8, e9, e10⟩) | (with_reducible exact ⟨g5.cell ci1, g5.cell ci2, g5.cell cx, g5.cell d0, g5.cell d1, g5.cell d2, g5.cell d3, g5.cell d4, g5.cell d5, g5.cell d6, g5.cell d7, g5.cell d8, g5.cell d9, g5.cell d10, g5.cell e0, g5.cell e1, g5.cell e2, g5.cell e3, g5.cell e4, g5.cell e5, g5.cell e6, g5.cell e7, g5.cell e8, g5.cell e9, g5.cell e10⟩))
                  ((go_at_call 35
                    refine (HBf.out).mono ?_
                    rintro e w5 ⟨rfl, b5⟩
                    have g5 : Grow wr w5 := Grow.trans (Grow.drew wr) b5
                    have HG5 := hid g5))
                all_goals (go_wp2_with fail; go_meet)
                all_goals exact ⟨rfl, HG5.out⟩
              obtain ⟨rfl, g5⟩ := hcut
              have HG5 := hid (Grow.trans HGJ.out g5)
              clear ci1 ci2 cx d0 d1 d2 d3 d4 d5 d6 d7 d8 d9 d10 e0 e1 e2 e3 e4 e5 e6 e7 e8 e9 e10 HBf g5
              go_wp2_with fail
              go_roundw
              case rel => exact ⟨j + 1, by omega, by go_num, HG5.out⟩
              case measure => (simp [intOf]; try omega)
            · have hj2 : ¬ (j : Int) < (i : Int) := by omega
              have HGJ := hid hgj
              clear hgj
              go_wp2_with fail
              go_meet
              exact HGJ.out
        have g3 := hcut
        clear hcut
        have HG3 := hid (Grow.trans HG2.out g3)
        have HOw3 := hid (own_growO HOw2.out g3)
        have hgw := Grow.trans HG1.out HG3.out
        have cx : wc.cell? ⟨bx, 2, none⟩ = some (.slice (some ⟨ob, oo, none⟩) m co) := by rw [heap_cell (HBX.out wc HG3.out)]; rfl
        obtain ⟨d0, d1, d2, d3, d4, d5, d6, d7, d8, d9, d10⟩ := HOA.out
        (replace d0 := hgw.cell d0; replace d1 := hgw.cell d1; replace d2 := hgw.cell d2; replace d3 := hgw.cell d3; replace d4 := hgw.cell d4; replace d5 := hgw.cell d5; replace d6 := hgw.cell d6; replace d7 := hgw.cell d7; replace d8 := hgw.cell d8; replace d9 := hgw.cell d9; replace d10 := hgw.cell d10)
        clear hgw g3 HOw2 HG2
        have hin : i ≤ 1000 := by omega
        go_wp2_with (at_builtin; refine wpList_append_ops rfl _ _ rfl W1.heap.size (.slice aA i ka) i (L.take i) rfl (own_growO HOw3.out (Grow.alloc wc (.cells #[.int .i64 oid, .int .i64 oproc, .int .i64 oobj, .int .i64 okind, .int .i64 ometh, .int .i64 oarg, .int .i64 osec, .bool odone, .int .i64 ores, .int .i64 oinv, .int .i64 oret] 52))) (some ⟨wc.heap.size, 0, none⟩) 1 1 [(⟨oid, oproc, oobj, okind, ometh, oarg, osec, odone, ores, oinv, oret⟩ : OpR)] rfl (Ops.one (heap_new wc _)) (by omega) (Nat.le_trans HG3.out.size (Grow.alloc wc (.cells #[.int .i64 oid, .int .i64 oproc, .int .i64 oobj, .int .i64 okind, .int .i64 ometh, .int .i64 oarg, .int .i64 osec, .bool odone, .int .i64 ores, .int .i64 oinv, .int .i64 oret] 52)).size) ?_)
        intro v4 w4 ho4 hg4
        have g4 := (Grow.trans HG3.out (Grow.alloc wc (.cells #[.int .i64 oid, .int .i64 oproc, .int .i64 oobj, .int .i64 okind, .int .i64 ometh, .int .i64 oarg, .int .i64 osec, .bool odone, .int .i64 ores, .int .i64 oinv, .int .i64 oret] 52))).grown hg4 (Nat.le_trans HG3.out.size (Grow.alloc wc (.cells #[.int .i64 oid, .int .i64 oproc, .int .i64 oobj, .int .i64 okind, .int .i64 ometh, .int .i64 oarg, .int .i64 osec, .bool odone, .int .i64 ores, .int .i64 oinv, .int .i64 oret] 52)).size) (fun q hq => (HOw3.out.lt q hq).1)
        have HO4 := hid (show w4.ownsRow W1.heap.size 52 11 v4 (i + 1) (opCells (L.take (i + 1))) from by rw [HTKI.out]; exact ho4)
        have HG4 := hid g4
        clear ho4 hg4 g4
        go_wp2_with fail
        go_roundw
        case rel => exact ⟨i + 1, by omega, by go_num, HO4, HG4.out⟩
        case measure => (simp [intOf]; try omega)
      · have hin : i = n := by omega
        have hi1 : ¬ (i : Int) < (n : Int) := by omega
        have hO := HOw.out
        rw [hin, HTL.out] at hO
        have HO4 := hid hO
        have HGR := hid hgr
        have HIN := hid hin
        clear hO hin hgr
        go_wp2_with fail
        go_meet
        refine ⟨?_, HGR.out⟩
        rw [HIN.out]
        exact HO4
  obtain ⟨HOw, hgr⟩ := hcut
  have HGR := hid hgr
  obtain ⟨aA, ka, hau⟩ := own_formM HOw.out
  subst hau
  have HVL := hid (fun w' (h : Grow wc w') => Ops.of_own (own_growO HOw.out h) (by omega))
  clear hgr HOw HAP HTH HCI HI HFindO HTK
  go_wp2_with fail
  go_loopw [9] (fun s w2 => ∃ q : Nat, q ≤ m ∧ s = .int .i64 (q : Int) ∧ Grow wc w2) (fun s _ => m - (intOf s).toNat)
  case atStart => exact ⟨0, by omega, rfl, Grow.refl _⟩
  case round =>
    obtain ⟨q, hq, rfl, hgq⟩ := hrel
    have cx : wr.cell? ⟨bx, 2, none⟩ = some (.slice po m co) := by rw [heap_cell (HBX.out wr (Grow.trans HGR.out hgq))]; rfl
    have cy : wr.cell? ⟨bx, 1, none⟩ = some (.int .i64 kd) := by rw [heap_cell (HBX.out wr (Grow.trans HGR.out hgq))]; rfl
    have HGQ := hid hgq
    by_cases hlt : q < m
    · obtain ⟨ob, oo, rfl, hoa⟩ := HCO.out q hlt
      obtain ⟨k, hk, he, hmin⟩ := HAL.out q hlt
      have HFk := hid (fun (w' : World) (hv : Ops w' (.slice aA n ka) L) => HFindL.out (opAt ops q).id k _ w' hv hk he hmin)
      clear hk he hmin
      have hq0 : (0 : Int) ≤ (q : Int) := by omega
      have hq1 : (q : Int) < (m : Int) := by omega
      have hgw := Grow.trans HG1.out (Grow.trans HGR.out hgq)
      generalize opAt ops q = o at *
      obtain ⟨oid, oproc, oobj, okind, ometh, oarg, osec, odone, ores, oinv, oret⟩ := o
      dsimp only at HFk
      unfold OpAt at hoa
      dsimp only at hoa
      obtain ⟨d0, d1, d2, d3, d4, d5, d6, d7, d8, d9, d10⟩ := hoa
      replace d0 := hgw.cell d0
      replace d7 := hgw.cell d7
      have hneg : ¬ (k : Int) < 0 := by omega
      clear hgw d1 d2 d3 d4 d5 d6 d8 d9 d10 cy hgq
      cases odone
      · go_wp2_with fail
        go_roundw
        case rel => exact ⟨q + 1, by omega, by go_num, HGQ.out⟩
        case measure => (simp [intOf]; try omega)
      · go_wp2_with fail
        refine (HFk.out _ (HVL.out _ HGQ.out)).mono ?_
        rintro e w5 ⟨rfl, rfl⟩
        go_wp2_with fail
        go_roundw
        case rel => exact ⟨q + 1, by omega, by go_num, HGQ.out⟩
        case measure => (simp [intOf]; try omega)
    · have hq1 : ¬ (q : Int) < (m : Int) := by omega
      clear hgq
      go_wp2_with fail
      refine (HFi.out wr).mono ?_
      rintro e w2 ⟨⟨v2, rfl, i2⟩, b2⟩
      have HR := hid (HRuns.out v2 (.slice aA n ka) w2 i2.1 (HVL.out _ (Grow.trans HGQ.out b2)))
      have HG2 := hid (Grow.trans HGQ.out b2)
      clear i2 b2
      go_wp2_with fail
      refine (HR.out).mono ?_
      rintro e w3 ⟨⟨v3, rfl⟩, b3⟩
      have HG3 := hid (Grow.trans HG1.out (Grow.trans HGR.out (Grow.trans HG2.out b3)))
      clear b3
      go_wp2_with fail
      go_ret
      exact ⟨rfl, HG3.out⟩
end Go.Proofs.Ytlhgdbangnohjaa
namespace Go.Proofs.Ytlhgdbangnohjaa
open Go.RowKit
set_option linter.unusedVariables false
set_option linter.unusedSimpArgs false
theorem doL_same (xs : List Int) (a b : OpR) (h1 : a.kind = b.kind) (h2 : a.meth = b.meth) (h3 : a.arg = b.arg) (h4 : a.sec = b.sec) (h5 : a.proc = b.proc) : doL xs a = doL xs b := by
  obtain ⟨a1, a2, a3, a4, a5, a6, a7, a8, a9, a10, a11⟩ := a
  obtain ⟨b1, b2, b3, b4, b5, b6, b7, b8, b9, b10, b11⟩ := b
  dsimp only at h1 h2 h3 h4 h5
  subst h1 h2 h3 h4 h5
  rfl
theorem stepL_ok {xs : List Int} {q o : OpR} (hs : doL xs q = doL xs o) (hd : (doL xs o).2.2 = true) (hr : q.done = true → q.res = (doL xs o).2.1) : stepL xs q = ((doL xs o).1, true) := by
  unfold stepL
  rw [hs, if_neg]
  intro h
  rcases h with h | ⟨h, h2⟩
  · rw [hd] at h; cases h
  · exact h2 (hr h).symm
theorem mine_snoc (l : List OpR) (q : OpR) (x : Int) : mineL (l ++ [q]) x = mineL l x ++ (if q.obj = x then [q] else []) := by
  unfold mineL
  rw [List.filter_append]
  by_cases h : q.obj = x
  · rw [if_pos h, List.filter_cons_of_pos (by simpa using h)]
    rfl
  · rw [if_neg h, List.filter_cons_of_neg (by simpa using h)]
    rfl
/-- What stays true as a history without wrong answers is made. -/
structure OrdG (c : GenC) (G : GenW) : Prop where
  kinds : ∀ a ∈ G.l, ∃ n : Nat, a.obj = (n : Int) ∧ n < c.objects.toNat ∧ a.kind = (n : Int) % 6 + 1
  low : ∀ a ∈ G.l, a.inv ≤ G.now
  seq : G.l.Pairwise (fun a b => befB b a = false)
  runs : ∀ n : Nat, n < c.objects.toNat → runsL (firstV n) (mineL G.l (n : Int)) = (G.states.getD n [], true)
theorem OrdG.x {c : GenC} {G : GenW} (h : OrdG c G) (x : Int) : OrdG c { G with x := x } := ⟨h.kinds, h.low, h.seq, h.runs⟩
theorem getD_setSt (l : List (List Int)) (n m : Nat) (xs : List Int) (hn : n < l.length) : (l.set n xs).getD m [] = if m = n then xs else l.getD m [] := by
  rw [List.getD_eq_getElem?_getD, List.getElem?_set]
  by_cases e : n = m
  · subst e
    rw [if_pos rfl, if_pos hn, if_pos rfl]
    rfl
  · rw [if_neg e, if_neg (fun e2 => e e2.symm), List.getD_eq_getElem?_getD]
/-- One more operation. -/
theorem ord_more {c : GenC} {G : GenW} (h : OrdG c G) (q o : OpR) (n : Nat) (hn2 : n < c.objects.toNat) (hst : G.states.length = c.objects.toNat) (pt : Int) (hq : q.obj = (n : Int)) (hk : q.kind = (n : Int) % 6 + 1) (hi : q.inv ≤ pt) (hnow : G.now ≤ pt) (hret : q.done = true → G.now ≤ q.ret)
    (hs : doL (G.states.getD n []) q = doL (G.states.getD n []) o) (hd : (doL (G.states.getD n []) o).2.2 = true) (hr : q.done = true → q.res = (doL (G.states.getD n []) o).2.1) (x : Int) (fr : List Int) (gn : List Bool) :
    OrdG c { x := x, free := fr, gone := gn, states := G.states.set n (doL (G.states.getD n []) o).1, now := pt, l := G.l ++ [q] } where
  kinds := fun a ha => by
    simp only [List.mem_append, List.mem_singleton] at ha
    rcases ha with ha | rfl
    · exact h.kinds a ha
    · exact ⟨n, hq, hn2, hk⟩
  low := fun a ha => by
    simp only [List.mem_append, List.mem_singleton] at ha
    rcases ha with ha | rfl
    · have := h.low a ha
      dsimp only
      omega
    · exact hi
  seq := by
    rw [List.pairwise_append]
    refine ⟨h.seq, by simp, fun a ha b hb => ?_⟩
    simp only [List.mem_singleton] at hb
    subst hb
    have := h.low a ha
    unfold befB
    cases hd2 : b.done with
    | false => rfl
    | true =>
      have := hret hd2
      simp
      omega
  runs := fun m hm => by
    dsimp only
    rw [mine_snoc, hq, getD_setSt _ _ _ _ (by rw [hst]; exact hn2)]
    by_cases e : m = n
    · subst e
      rw [if_pos rfl, if_pos rfl, runsL_append, h.runs m hm]
      dsimp only
      rw [if_neg (by decide)]
      unfold runsL
      rw [stepL_ok hs hd hr]
      rfl
    · rw [if_neg (by omega), if_neg e, List.append_nil]
      exact h.runs m hm
theorem ord_place {c : GenC} {G : GenW} {k : Nat} (hw : c.wrong = 0) (hg : GOk c G k) (h : OrdG c G) (o : OpR) (n : Nat) (ha : AskOk c.procs o) (hdn : o.done = false)
    (hn : o.obj = (n : Int)) (hn2 : n < c.objects.toNat) (hkd : o.kind = (n : Int) % 6 + 1) : OrdG c (placeG c G o) := by
  have hf1 : G.free.getD o.proc.toNat 0 + 1 ≤ pointV G o := by
    have := imax_ge_r G.now (G.free.getD o.proc.toNat 0)
    have := belowV_lo (x := G.x) (n := 4) (by decide)
    unfold pointV
    omega
  have hnow : G.now ≤ pointV G o := by
    have := imax_ge_l G.now (G.free.getD o.proc.toNat 0)
    have := belowV_lo (x := G.x) (n := 4) (by decide)
    unfold pointV
    omega
  unfold placeG
  dsimp only
  rw [hn, Int.toNat_natCast]
  have hpt : imax G.now (G.free.getD o.proc.toNat 0) + 1 + belowV G.x 4 = pointV G o := rfl
  rw [hpt]
  have b8 := belowV_lo (x := nxt G.x) (n := 8) (by decide)
  have i2 : imax (G.free.getD o.proc.toNat 0 + 1) (pointV G o - belowV (nxt G.x) 8) ≤ pointV G o := imax_le hf1 (by omega)
  generalize imax (G.free.getD o.proc.toNat 0 + 1) (pointV G o - belowV (nxt G.x) 8) = inv at *
  generalize pointV G o = pt at *
  have c8 := belowV_lo (x := nxt (nxt (nxt G.x))) (n := 8) (by decide)
  have c100 := belowV_lo (x := nxt (nxt (nxt (nxt G.x)))) (n := 100) (by decide)
  obtain ⟨o1, ho1⟩ : ∃ z : OpR, z = ⟨o.id, o.proc, (n : Int), o.kind, o.meth, o.arg, o.sec, o.done, o.res, inv, o.ret⟩ := ⟨_, rfl⟩
  rw [← ho1]
  by_cases hok : (doL (G.states.getD n []) o1).2.2 = false
  · rw [if_pos hok]
    exact ⟨h.kinds, fun a ha2 => by have := h.low a ha2; dsimp only; omega, h.seq, h.runs⟩
  · rw [if_neg hok]
    have hok2 : (doL (G.states.getD n []) o1).2.2 = true := by simpa using hok
    by_cases hp : belowV (nxt (nxt G.x)) 100 < c.pending
    · rw [if_pos hp]
      exact ord_more h o1 o1 n hn2 hg.stN pt (by rw [ho1]) (by rw [ho1]; exact hkd) (by rw [ho1]; exact i2) hnow (fun e => by rw [ho1] at e; dsimp only at e; rw [hdn] at e; cases e) rfl hok2 (fun e => by rw [ho1] at e; dsimp only at e; rw [hdn] at e; cases e) _ _ _
    · rw [if_neg hp, if_neg (by rw [hw]; omega)]
      refine ord_more h _ o1 n hn2 hg.stN pt (by rw [ho1]) (by rw [ho1]; exact hkd) (by rw [ho1]; exact i2) hnow (fun _ => by dsimp only; omega) (doL_same _ _ _ (by rw [ho1]) (by rw [ho1]) (by rw [ho1]) (by rw [ho1]) (by rw [ho1])) hok2 (fun _ => rfl) _ _ _
theorem ord_step {c : GenC} {G : GenW} {k : Nat} (hw : c.wrong = 0) (hc : c.good) (hk : k ≤ 63) (hg : GOk c G k) (h : OrdG c G) : OrdG c (stepG c G ((k : Int) + 1)) := by
  obtain ⟨g1, g2, g3, g4, -⟩ := hc
  cases hch : chooseL G.gone c.procs.toNat (belowV G.x c.procs).toNat c.procs.toNat 0 with
  | none =>
    rw [stepG_none hch]
    exact h.x _
  | some p =>
    obtain ⟨hpp, hpg⟩ := chooseL_lt (by omega) _ _ _ hch
    have b1 := belowV_lo (x := nxt G.x) (n := c.objects) g3
    have b2 := belowV_hi (x := nxt G.x) (n := c.objects) g3
    obtain ⟨n, hn⟩ : ∃ n : Nat, belowV (nxt G.x) c.objects = (n : Int) := ⟨(belowV (nxt G.x) c.objects).toNat, by omega⟩
    have hnn : n < c.objects.toNat := by omega
    obtain ⟨a1, a2, a3, a4, a5⟩ := ask_ok (procs := c.procs) (nxt (nxt G.x)) ((k : Int) + 1) p (belowV (nxt G.x) c.objects) ⟨by omega, by omega⟩
    have af := ask_fits (nxt (nxt G.x)) ((k : Int) + 1) p (belowV (nxt G.x) c.objects) b1
    cases hr : askL (nxt (nxt G.x)) ((k : Int) + 1) p (belowV (nxt G.x) c.objects) with
    | mk y o =>
      rw [hr] at a1 a2 a3 a4 a5 af
      rw [hn] at a2 a3
      rw [stepG_some hch hr]
      cases ht : turnL G o with
      | none => exact h.x y
      | some q =>
        obtain ⟨q1, q2, q3, q4⟩ := turn_ok hg o q n a1 a2 hnn a3 ht
        exact ord_place (k := k) hw (hg.x y) (h.x y) q n q1 (turn_fits af ht).done q2 hnn q3
theorem ord_steps {c : GenC} (hw : c.wrong = 0) (hc : c.good) : ∀ n : Nat, n ≤ 64 → OrdG c (stepsG c (firstG c) n)
  | 0, _ => ⟨fun o ho => (by cases ho), fun o ho => (by cases ho), List.Pairwise.nil, fun n hn => by
      have : (firstG c).states.getD n [] = firstV n := by
        simp only [firstG, firstV, List.getD_eq_getElem?_getD, List.getElem?_map, List.getElem?_range hn]
        rfl
      show runsL (firstV n) [] = ((firstG c).states.getD n [], true)
      rw [this]
      rfl⟩
  | n + 1, h => ord_step hw hc (by omega) (steps_ok hc n (by omega)) (ord_steps hw hc n (by omega))
theorem first_at {P : Nat → Prop} [DecidablePred P] : ∀ (m : Nat), P m → ∃ k, k ≤ m ∧ P k ∧ ∀ j, j < k → ¬ P j
  | 0, h => ⟨0, Nat.le_refl _, h, fun j hj => by omega⟩
  | m + 1, h => by
    by_cases h2 : ∃ j, j < m + 1 ∧ P j
    · obtain ⟨j, hj, hp⟩ := h2
      obtain ⟨k, h1, h2, h3⟩ := first_at (P := P) j hp
      exact ⟨k, by omega, h2, h3⟩
    · exact ⟨m + 1, Nat.le_refl _, h, fun j hj hp => h2 ⟨j, hj, hp⟩⟩
  termination_by m => m
theorem order_ok {ops L : List OpR} {i0 : Nat} (hp : ops.Perm L) (hids : L.Pairwise (fun a b => a.id < b.id)) (hseq : L.Pairwise (fun a b => befB b a = false)) (hr : (runsL (firstV i0) L).2 = true) : OrderOk ops L i0 where
  there := fun i hi => by
    have hm : opAt L i ∈ ops := hp.mem_iff.2 (by rw [opAt_get hi]; exact List.getElem_mem hi)
    obtain ⟨m, hm1, hm2⟩ := List.getElem_of_mem hm
    obtain ⟨k, h1, h2, h3⟩ := first_at (P := fun k => (opAt ops k).id = (opAt L i).id) m (by rw [opAt_get hm1, hm2])
    have hk : k < ops.length := by omega
    refine ⟨k, hk, ?_, h3⟩
    have hmk : opAt ops k ∈ L := hp.mem_iff.1 (by rw [opAt_get hk]; exact List.getElem_mem hk)
    obtain ⟨j, hj1, hj2⟩ := List.getElem_of_mem hmk
    have hij : (L[j]).id = (L[i]).id := by rw [hj2, ← opAt_get hi]; exact h2
    have : j = i := by
      have hpw := List.pairwise_iff_getElem.1 hids
      by_cases h4 : j < i
      · have := hpw j i hj1 hi h4
        omega
      · by_cases h5 : i < j
        · have := hpw i j hi hj1 h5
          omega
        · omega
    subst this
    rw [← hj2, ← opAt_get hi]
  apart := fun i hi j hj => by
    have hj1 : j < L.length := by omega
    rw [opAt_get hi, opAt_get hj1]
    have h1 := List.pairwise_iff_getElem.1 hids j i hj1 hi hj
    have h2 := List.pairwise_iff_getElem.1 hseq j i hj1 hi hj
    exact ⟨by omega, h2⟩
  all := fun m hm => by
    have hmm : opAt ops m ∈ L := hp.mem_iff.1 (by rw [opAt_get hm]; exact List.getElem_mem hm)
    obtain ⟨j, hj1, hj2⟩ := List.getElem_of_mem hmm
    obtain ⟨k, h1, h2, h3⟩ := first_at (P := fun k => (opAt L k).id = (opAt ops m).id) j (by rw [opAt_get hj1, hj2])
    exact ⟨k, by omega, h2, h3⟩
  runs := hr
/-- Each object's operations have an order: that of their numbers. -/
theorem gen_orders {c : GenC} (hw : c.wrong = 0) (hc : c.good) (n : Nat) (hn : n ≤ 64) (s : SegR) (hs : s ∈ objectsL (stepsG c (firstG c) n).l) :
    ∃ i0 : Nat, i0 ≤ 16 ∧ s.obj = (i0 : Int) ∧ s.kind = (i0 : Int) % 6 + 1 ∧ OrderOk s.ops (mineL (stepsG c (firstG c) n).l s.obj) i0 ∧ s.ops.length ≤ (stepsG c (firstG c) n).l.length := by
  obtain ⟨x, rfl, o, ho, hx⟩ := objs_mem _ _ hs
  have hO := ord_steps hw hc n hn
  obtain ⟨i0, h1, h2, h3⟩ := hO.kinds o ho
  have hids := (steps_ids c (firstG c) rfl n).1
  generalize (stepsG c (firstG c) n) = G at *
  subst hx
  obtain ⟨-, -, -, g4, -⟩ := hc
  refine ⟨i0, by omega, h1, ?_, ?_, by show (sortedL (mineL G.l o.obj)).length ≤ G.l.length; rw [sortedL_len]; exact mine_len _ _⟩
  · have hlen : 0 < (sortedL (mineL G.l o.obj)).length := by rw [sortedL_len]; exact mine_pos ho rfl
    show (opAt (sortedL (mineL G.l o.obj)) 0).kind = _
    have hmem : opAt (sortedL (mineL G.l o.obj)) 0 ∈ mineL G.l o.obj := (sortedL_perm _).mem_iff.1 (by rw [opAt_get hlen]; exact List.getElem_mem hlen)
    unfold mineL at hmem
    rw [List.mem_filter] at hmem
    obtain ⟨i1, k1, k2, k3⟩ := hO.kinds _ hmem.1
    have : (opAt (sortedL (mineL G.l o.obj)) 0).obj = o.obj := by
      have := hmem.2
      unfold mineL
      simpa using this
    unfold mineL at this
    unfold mineL
    rw [k3]
    omega
  · show OrderOk (sortedL (mineL G.l o.obj)) (mineL G.l o.obj) i0
    refine order_ok (sortedL_perm _) (hids.sublist (List.filter_sublist)) (hO.seq.sublist (List.filter_sublist)) ?_
    rw [h1, hO.runs i0 h2]
end Go.Proofs.Ytlhgdbangnohjaa
