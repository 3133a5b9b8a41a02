/- The reference reads parts with a word between. -/
import Derived.Test.YteilkcdbdpkbfaaDoorQRComp
import Derived.Test.YteilkcdbdpkbfaaDoorQList
import Derived.Deep.Cut
namespace Go.Proofs.YteilkcdbdpkbfaaDoor
open Go.RowKit
set_option linter.unusedVariables false
set_option linter.unusedSimpArgs false
attribute [local go_sem ↓ high] setCell_twice
theorem run_rtok0 (a b c d : Value) (w : World) : (Instr.field 54 (.agg #[a, b, c, d]) 0).run Tryd.prog w = .ok a w := by
  unfold Instr.field
  simp [go_sem]
  rfl
theorem run_rtok1 (a b c d : Value) (w : World) : (Instr.field 54 (.agg #[a, b, c, d]) 1).run Tryd.prog w = .ok b w := by
  unfold Instr.field
  simp [go_sem]
  rfl
theorem run_rtok2 (a b c d : Value) (w : World) : (Instr.field 54 (.agg #[a, b, c, d]) 2).run Tryd.prog w = .ok c w := by
  unfold Instr.field
  simp [go_sem]
  rfl
/-- Signs that are left. -/
def leftA (H m : Nat) (w : World) : Nat := match w.cell? ⟨H, 2, none⟩ with
  | some x => m - (intOf x).toNat
  | _ => 0
theorem leftA_eq {H m a : Nat} {w : World} {c0 c1 c3 c4 : Value} {t : TypeId} (h : w.heap[H]? = some (.cells #[c0, c1, .int .i64 (a : Int), c3, c4] t)) : leftA H m w = m - a := by
  unfold leftA
  rw [heap_cell h]
  simp [intOf]
/-- A part is read, behind these nodes. -/
def headP (kind : Int) (between : ByteArray) (part : List Tok → PR NodeR) (acc : List NodeR) (L : List Tok) : PR NodeR := match part L with
  | .bad e q => .bad e q
  | .ok n R => if isT R between = true then wrapL kind (moreP between part R.length R (acc ++ [n])) else (match acc with | [] => .ok n R | _ :: _ => .ok (.mk kind (acc ++ [n]) ⟨#[]⟩ ⟨#[]⟩ 0) R)
theorem headP_start (kind : Int) (between : ByteArray) (part : List Tok → PR NodeR) (L : List Tok) : headP kind between part [] L = listP kind between part L := by
  unfold headP
  cases h : part L with
  | bad e q => simp [listP, h]
  | ok n R =>
    simp only
    by_cases hi : isT R between = true
    · rw [if_pos hi, listP_more h hi, List.nil_append]
    · rw [if_neg hi]
      simp [listP, h, hi]
theorem headP_next {kind : Int} {between : ByteArray} {part : List Tok → PR NodeR} (hl : ∀ L n R, part L = .ok n R → R.length ≤ L.length) {acc : List NodeR} (hacc : acc ≠ []) {R : List Tok} (ht : isT R between = true) : wrapL kind (moreP between part R.length R acc) = headP kind between part acc R.tail := by
  unfold headP
  cases h : part R.tail with
  | bad e q => rw [moreP_bad between part R acc ht h]; rfl
  | ok n R2 =>
    rw [moreP_step between part hl R acc ht h]
    simp only
    by_cases hi : isT R2 between = true
    · rw [if_pos hi]
    · rw [if_neg hi, moreP_end between part R2 _ (by simpa using hi)]
      cases acc with
      | nil => exact absurd rfl hacc
      | cons a l => rfl
theorem round_cases {kind : Int} {between : ByteArray} {part : List Tok → PR NodeR} (hl : ∀ L n R, part L = .ok n R → R.length ≤ L.length) (hb : between ≠ ⟨#[]⟩) {T : List Tok} {at_ at' e' pos' : Nat} {nd : NodeR} {acc : List NodeR} {res : PR NodeR} (ha : at_ ≤ T.length) (ha' : at' ≤ T.length)
    (hm : match part (T.drop at_) with | .ok a R => a = nd ∧ e' = 0 ∧ pos' = 0 ∧ T.drop at' = R | .bad k q => e' = k ∧ pos' = q ∧ k ≠ 0) (hres : headP kind between part acc (T.drop at_) = res) :
    ((nextK T at' e').str = between ∧ e' = 0 ∧ pos' = 0 ∧ at' < T.length ∧ at_ ≤ at' ∧ headP kind between part (acc ++ [nd]) (T.drop (at' + 1)) = res) ∨
    ((nextK T at' e').str ≠ between ∧ (match res with | .ok a R => a = (if acc = [] then nd else .mk kind (acc ++ [nd]) ⟨#[]⟩ ⟨#[]⟩ 0) ∧ e' = 0 ∧ pos' = 0 ∧ T.drop at' = R | .bad k q => e' = k ∧ pos' = q ∧ k ≠ 0)) := by
  unfold headP at hres
  cases hp : part (T.drop at_) with
  | bad k q =>
    rw [hp] at hm hres
    simp only at hm hres
    subst hres
    right
    refine ⟨?_, hm⟩
    unfold nextK
    rw [if_pos (by omega)]
    exact fun e => hb e.symm
  | ok a R =>
    rw [hp] at hm hres
    simp only at hm hres
    obtain ⟨rfl, rfl, rfl, hR⟩ := hm
    have hlen := hl _ _ _ hp
    rw [← hR, List.length_drop, List.length_drop] at hlen
    have hnk : nextK T at' 0 = T.getD at' ⟨0, [], 0, 0⟩ := by unfold nextK; rw [if_neg (by simp)]
    rw [hnk]
    cases hR2 : R with
    | nil =>
      rw [hR2] at hR hres
      have h5 : T.length ≤ at' := by
        have := congrArg List.length hR
        rw [List.length_drop] at this
        simp at this
        omega
      right
      refine ⟨?_, ?_⟩
      · rw [List.getD_eq_getElem?_getD, List.getElem?_eq_none h5]
        exact fun e => hb e.symm
      · rw [if_neg (by simp [isT])] at hres
        subst hres
        cases acc with
        | nil => exact ⟨by simp, rfl, rfl, hR⟩
        | cons b l => exact ⟨by simp, rfl, rfl, hR⟩
    | cons t R' =>
      rw [hR2] at hR hres
      have h5 : at' < T.length := by
        have := congrArg List.length hR
        rw [List.length_drop] at this
        simp at this
        omega
      have h6 : T.getD at' ⟨0, [], 0, 0⟩ = t := by
        have := List.drop_eq_getElem_cons h5
        rw [hR] at this
        rw [List.getD_eq_getElem?_getD, List.getElem?_eq_getElem h5, Option.getD_some]
        exact (List.cons.inj this).1.symm
      have h7 : T.drop (at' + 1) = R' := by rw [← List.drop_drop, hR]; rfl
      rw [h6]
      by_cases hi : isT (t :: R') between = true
      · left
        refine ⟨toList_injR (by simpa [isT] using hi), rfl, rfl, h5, by omega, ?_⟩
        rw [if_pos hi] at hres
        rw [h7, ← hres, headP_next hl (by simp) hi]
        rfl
      · right
        refine ⟨fun e => hi (by simp [isT, e]), ?_⟩
        rw [if_neg hi] at hres
        subst hres
        cases acc with
        | nil => exact ⟨by simp, rfl, rfl, hR⟩
        | cons b l => exact ⟨by simp, rfl, rfl, hR⟩
/-- Ten stores into two blocks: other blocks stay. -/
theorem by10 (w : World) (r4 r5 : Nat) (c0 c1 c2 c3 c4 d0 d1 d2 d3 d4 : Value) : w.grownBy (((((w.setCell ⟨r4, 0, none⟩ c0).setCell ⟨r4, 1, none⟩ c1).setCell ⟨r4, 2, none⟩ c2).setCell ⟨r4, 3, none⟩ c3).setCell ⟨r4, 4, none⟩ c4) (some r4) ∧ World.grownBy (((((w.setCell ⟨r4, 0, none⟩ c0).setCell ⟨r4, 1, none⟩ c1).setCell ⟨r4, 2, none⟩ c2).setCell ⟨r4, 3, none⟩ c3).setCell ⟨r4, 4, none⟩ c4) ((((((((((w.setCell ⟨r4, 0, none⟩ c0).setCell ⟨r4, 1, none⟩ c1).setCell ⟨r4, 2, none⟩ c2).setCell ⟨r4, 3, none⟩ c3).setCell ⟨r4, 4, none⟩ c4).setCell ⟨r5, 0, none⟩ d0).setCell ⟨r5, 1, none⟩ d1).setCell ⟨r5, 2, none⟩ d2).setCell ⟨r5, 3, none⟩ d3).setCell ⟨r5, 4, none⟩ d4) (some r5) :=
  ⟨Lib.grownBy_setB (Lib.grownBy_setB (Lib.grownBy_setB (Lib.grownBy_setB (Lib.grownBy_setB (World.grownBy.refl w _) 0 _) 1 _) 2 _) 3 _) 4 _,
   Lib.grownBy_setB (Lib.grownBy_setB (Lib.grownBy_setB (Lib.grownBy_setB (Lib.grownBy_setB (World.grownBy.refl _ _) 0 _) 1 _) 2 _) 3 _) 4 _⟩
theorem in10 {w w' w'' : World} {a b : Nat} (g1 : w.grownBy w' (some a)) (g2 : w'.grownBy w'' (some b)) {S : Nat → Prop} (h1 : ∀ x, x < w.heap.size → S x → x ≠ a ∧ x ≠ b) {n : NodeR} {v : Value} (h : n.In S w v) : n.In S w'' v :=
  NodeR.In.kept (Nat.le_trans g1.size g2.size) (fun _ _ h => h) (fun x o u hx hS hc => g2.cell (g1.cell hc (by simpa using (h1 x hx hS).1)) (by simpa using (h1 x hx hS).2)) n v h
theorem heap10 {w w' w'' : World} {a b q : Nat} {o : Obj} (g1 : w.grownBy w' (some a)) (g2 : w'.grownBy w'' (some b)) (ha : q ≠ a) (hb : q ≠ b) (h : w.heap[q]? = some o) : w''.heap[q]? = some o :=
  (g2.block q (Nat.lt_of_lt_of_le (heap_lt h) g1.size) (by simpa using hb)).trans ((g1.block q (heap_lt h) (by simpa using ha)).trans h)
theorem grow_by {w w1 w2 : World} {a : Nat} (g : Grow w w1) (k : w1.grownBy w2 (some a)) (ha : w.heap.size ≤ a) : Grow w w2 where
  os := k.os.trans g.os
  tape := k.tape.trans g.tape
  output := k.output.trans g.output
  size := Nat.le_trans g.size k.size
  block := fun j hj => by rw [k.block j (Nat.lt_of_lt_of_le hj g.size) (by simp; omega), g.block j hj]
theorem own_growR {w w' : World} {base : Nat} {e : TypeId} {size : Nat} {v : Value} {n : Nat} {xs : List Value} (h : w.ownsRow base e size v n xs) (hg : Grow w w') : w'.ownsRow base e size v n xs :=
  h.kept (hg.by_ none) (by cases hv : v.ownBlock <;> simp)
theorem ownB {w : World} {base : Nat} {e : TypeId} {size : Nat} {v : Value} {n : Nat} {xs : List Value} (h : w.ownsRow base e size v n xs) {g : Nat} (hg : v.ownBlock = some g) : base ≤ g ∧ g < w.heap.size := by
  rcases h.2 with ⟨hv, -⟩ | ⟨g', cap, cur, rfl, hb, hh, -⟩
  · subst hv; cases hg
  · obtain rfl : g' = g := Option.some.inj hg
    exact ⟨hb, heap_lt hh⟩
theorem grow_byO {w w1 w2 : World} {row : Option Nat} (g : Grow w w1) (k : w1.grownBy w2 row) (ha : ∀ a, row = some a → w.heap.size ≤ a) : Grow w w2 where
  os := k.os.trans g.os
  tape := k.tape.trans g.tape
  output := k.output.trans g.output
  size := Nat.le_trans g.size k.size
  block := fun j hj => by rw [k.block j (Nat.lt_of_lt_of_le hj g.size) (fun e => by have := ha j e.symm; omega), g.block j hj]
theorem heap_byO {w1 w2 : World} {row : Option Nat} (k : w1.grownBy w2 row) {q : Nat} {o : Obj} (h : w1.heap[q]? = some o) (hq : ∀ a, row = some a → q ≠ a) : w2.heap[q]? = some o :=
  (k.block q (heap_lt h) (fun e => hq q e.symm rfl)).trans h
theorem own10 {w w' w'' : World} {a b base : Nat} (g1 : w.grownBy w' (some a)) (g2 : w'.grownBy w'' (some b)) {e : TypeId} {size : Nat} {v : Value} {n : Nat} {xs : List Value} (h : w.ownsRow base e size v n xs) (ha : v.ownBlock ≠ some a) (hb : v.ownBlock ≠ some b) : w''.ownsRow base e size v n xs :=
  (h.kept g1 (.inr ha)).kept g2 (.inr hb)
set_option maxRecDepth 100000 in
set_option maxHeartbeats 8000000 in
theorem RListF_c (p : Option Addr) (n cap fin at_ deep : Nat) (T : List Tok) (w : World) (part : List Tok → PR NodeR) (hl : ∀ L n R, part L = .ok n R → R.length ≤ L.length) (hT : TokS w p n cap T) (hat : at_ ≤ T.length) (hd : deep ≤ 40)
    (HI : ∀ (a : Nat) (w' : World), TokS w' p n cap T → a ≤ T.length → Calls Tryd.prog 37 #[rdV p n cap fin a 0 0, .int .i64 ((deep + 1 : Nat) : Int)] w' (RPost T p n cap fin (part (T.drop a)) w')) :
    Calls Tryd.prog 22 #[rdV p n cap fin at_ 0 0, .int .i64 (deep : Int), .bool false] w (RPost T p n cap fin (listP 2 bAnd part (T.drop at_)) w) := by
  have HT := hid hT
  have hn4 : T.length ≤ 4096 := by rw [← hT.1]; exact hT.cells.1
  have HI0 := hid HI
  have HL := hid hl
  have hres0 := hid (headP_start 2 bAnd part (T.drop at_))
  generalize listP 2 bAnd part (T.drop at_) = res at *
  unfold rdV
  rw [show ((0 : Nat) : Int) = (0 : Int) from rfl]
  have hd1 : (deep : Int) ≤ 40 := by omega
  have G0 := hid (Grow.trans (Grow.trans (Grow.alloc w (.cells #[.slice p n cap, .int .i64 (fin : Int), .int .i64 (at_ : Int), .int .i64 0, .int .i64 0] 52)) (Grow.alloc _ ReadZ)) (Grow.alloc _ NodeZ))
  have B0 := hid (heap_alloc_keep (heap_alloc_keep (heap_new w (.cells #[.slice p n cap, .int .i64 (fin : Int), .int .i64 (at_ : Int), .int .i64 0, .int .i64 0] 52)) ReadZ) NodeZ)
  have R40 := hid (heap_alloc_keep (heap_newAt (w.alloc (.cells #[.slice p n cap, .int .i64 (fin : Int), .int .i64 (at_ : Int), .int .i64 0, .int .i64 0] 52)) ReadZ (g := w.heap.size + 1) (by simp)) NodeZ)
  have R50 := hid (heap_newAt ((w.alloc (.cells #[.slice p n cap, .int .i64 (fin : Int), .int .i64 (at_ : Int), .int .i64 0, .int .i64 0] 52)).alloc ReadZ) NodeZ (g := w.heap.size + 1 + 1) (by simp))
  clear hT HI hl
  replace hat := hid hat
  go_enter Tryd.func22, Tryd.ntmps22
  go_wp2_with fail
  generalize ((w.alloc (.cells #[.slice p n cap, .int .i64 (fin : Int), .int .i64 (at_ : Int), .int .i64 0, .int .i64 0] 52)).alloc ReadZ).alloc NodeZ = w0 at *
  generalize hH : w.heap.size = H at *
  have hws : w.heap.size ≤ H := Nat.le_of_eq hH
  replace hH := hid hH
  have hA1 : H < H + 1 := by omega
  have hB1 : H + 1 < H + 1 + 1 := by omega
  generalize H + 1 + 1 = RB at *
  generalize H + 1 = RA at *
  have nHA : H ≠ RA := by omega
  have nHB : H ≠ RB := by omega
  have nAB : RA ≠ RB := by omega
  have nAH : RA ≠ H := by omega
  have nBH : RB ≠ H := by omega
  have nBA : RB ≠ RA := by omega
  go_loopw [10, 11] (fun v _ wr => ∃ (acc : List NodeR) (xs : List Value) (a : Nat), a ≤ T.length ∧ acc.length ≤ a ∧ Hid (wr.ownsRow (RB + 1) 24 5 v acc.length xs) ∧ Hid (nodesIn (Off (RB + 1) v) wr acc xs) ∧ Hid (headP 2 bAnd part acc (T.drop a) = res) ∧ Hid (Grow w wr) ∧ Hid (wr.heap[H]? = some (.cells #[.slice p n cap, .int .i64 (fin : Int), .int .i64 (a : Int), .int .i64 0, .int .i64 0] 52)) ∧ Hid (wr.heap[RA]? = some ReadZ) ∧ Hid (wr.heap[RB]? = some NodeZ)) (fun _ _ wr => leftA H T.length wr)
  case atStart => exact ⟨[], [], at_, hat.out, Nat.zero_le _, hid (World.ownsRow_nil _ _ _ _), hid rfl, hres0, G0, B0, R40, R50⟩
  case round =>
    obtain ⟨acc, xs, a, ha, hacc, HO, HN, HM, HG, HB, HA, HBB⟩ := hrel
    have b0 : wr.cell? ⟨H, 0, none⟩ = some (.slice p n cap) := by rw [heap_cell HB.out]; rfl
    have b1 : wr.cell? ⟨H, 1, none⟩ = some (.int .i64 (fin : Int)) := by rw [heap_cell HB.out]; rfl
    have b2 : wr.cell? ⟨H, 2, none⟩ = some (.int .i64 (a : Int)) := by rw [heap_cell HB.out]; rfl
    have b3 : wr.cell? ⟨H, 3, none⟩ = some (.int .i64 0) := by rw [heap_cell HB.out]; rfl
    have b4 : wr.cell? ⟨H, 4, none⟩ = some (.int .i64 0) := by rw [heap_cell HB.out]; rfl
    have hz1 := heap_lt HBB.out
    have hz0 := heap_lt HB.out
    have INN := hid (HI0.out a (wr.alloc NodeZ) (HT.out.grow (HG.out.trans (Grow.alloc wr NodeZ))) ha)
    unfold rdV at INN
    have hmeas : leftA H T.length wr = T.length - a := leftA_eq HB.out
    replace hmeas := hid hmeas
    go_wp2_with fail
    refine INN.out.mono ?_
    rintro e w3 ⟨at', e', pos', nd, v3, rfl, hin, g3, hat', he', hm⟩
    unfold rdV
    obtain ⟨mk, mp, ml, mc, mf, ms, mx, rfl⟩ := NodeR.In.value hin
    have hcase := hid (round_cases HL.out (by decide) ha hat' hm HM.out)
    have GK := hid (Grow.trans (Grow.alloc wr NodeZ) g3)
    have BH3 := hid (GK.out.heap HB.out)
    have RA3 := hid (GK.out.heap HA.out)
    have RB3 := hid (GK.out.heap HBB.out)
    have KK3 := hid (g3.heap (heap_new wr NodeZ))
    have hO3 := hid (own_growR HO.out GK.out)
    have hN3 := hid (nodesIn.mono (fun n v h => NodeR.In.grow GK.out (NodeR.In.weaken (fun b hb hS => (⟨hS, hb⟩ : Off (RB + 1) _ b ∧ b < wr.heap.size)) h)) _ _ HN.out)
    have hB0 := hid (fun g hg => ownB (g := g) HO.out hg)
    have G3 := hid (HG.out.trans GK.out)
    have hin3 := hid hin
    have hs3 : wr.heap.size + 1 ≤ w3.heap.size := by have := g3.size; simpa using this
    have hK0 : w.heap.size ≤ wr.heap.size := HG.out.size
    have hsz : (wr.alloc NodeZ).heap.size = wr.heap.size + 1 := by simp
    rw [hsz] at hin3
    clear hin hm g3 HO HN HG HB HA HBB GK INN hsz b0 b1 b2 b3 b4
    generalize hK : wr.heap.size = K at *
    have nKH : K ≠ H := by omega
    have nHK : H ≠ K := by omega
    have nKA : RA ≠ K := by omega
    have nKB : RB ≠ K := by omega
    replace hK := hid hK
    have E := hid (store10 G3.out hws hK0 nHK BH3.out KK3.out (.slice p n cap) (.int .i64 (fin : Int)) (.int .i64 (at' : Int)) (.int .i64 (e' : Int)) (.int .i64 (pos' : Int)) (.int .i64 mk) (.slice mp ml mc) (.string mf) (.string ms) (.int .i64 mx))
    have Y := hid (by10 w3 H K (.slice p n cap) (.int .i64 (fin : Int)) (.int .i64 (at' : Int)) (.int .i64 (e' : Int)) (.int .i64 (pos' : Int)) (.int .i64 mk) (.slice mp ml mc) (.string mf) (.string ms) (.int .i64 mx))
    have hO4 := hid (own10 Y.out.1 Y.out.2 hO3.out (fun e => by have := hB0.out _ e; omega) (fun e => by have := hB0.out _ e; omega))
    have hN4 := hid (nodesIn.mono (fun n v h => in10 Y.out.1 Y.out.2 (fun x hx hS => ⟨by have := hS.1.1; omega, by have := hS.2; omega⟩) (NodeR.In.weaken (fun b _ hS => hS) h)) _ _ hN3.out)
    have hin4 := hid (in10 Y.out.1 Y.out.2 (fun x hx hS => ⟨by have h : K + 1 ≤ x := hS; omega, by have h : K + 1 ≤ x := hS; omega⟩) hin3.out)
    have RA4 := hid (heap10 Y.out.1 Y.out.2 nAH nKA RA3.out)
    have RB4 := hid (heap10 Y.out.1 Y.out.2 nBH nKB RB3.out)
    have b0 : w3.cell? ⟨H, 0, none⟩ = some (.slice p n cap) := by rw [heap_cell BH3.out]; rfl
    have b1 : w3.cell? ⟨H, 1, none⟩ = some (.int .i64 (fin : Int)) := by rw [heap_cell BH3.out]; rfl
    have b2 : w3.cell? ⟨H, 2, none⟩ = some (.int .i64 (a : Int)) := by rw [heap_cell BH3.out]; rfl
    have b3 : w3.cell? ⟨H, 3, none⟩ = some (.int .i64 0) := by rw [heap_cell BH3.out]; rfl
    have b4 : w3.cell? ⟨H, 4, none⟩ = some (.int .i64 0) := by rw [heap_cell BH3.out]; rfl
    have y0 : w3.frozen? ⟨H, 0, none⟩ = false := heap_frozen BH3.out 0 (by omega)
    have y1 : w3.frozen? ⟨H, 1, none⟩ = false := heap_frozen BH3.out 1 (by omega)
    have y2 : w3.frozen? ⟨H, 2, none⟩ = false := heap_frozen BH3.out 2 (by omega)
    have y3 : w3.frozen? ⟨H, 3, none⟩ = false := heap_frozen BH3.out 3 (by omega)
    have y4 : w3.frozen? ⟨H, 4, none⟩ = false := heap_frozen BH3.out 4 (by omega)
    have k0 : w3.cell? ⟨K, 0, none⟩ = some (.int .i64 0) := by rw [heap_cell KK3.out]; rfl
    have k1 : w3.cell? ⟨K, 1, none⟩ = some (.slice none 0 0) := by rw [heap_cell KK3.out]; rfl
    have k2 : w3.cell? ⟨K, 2, none⟩ = some (.string ⟨#[]⟩) := by rw [heap_cell KK3.out]; rfl
    have k3 : w3.cell? ⟨K, 3, none⟩ = some (.string ⟨#[]⟩) := by rw [heap_cell KK3.out]; rfl
    have k4 : w3.cell? ⟨K, 4, none⟩ = some (.int .i64 0) := by rw [heap_cell KK3.out]; rfl
    have f0 : w3.frozen? ⟨K, 0, none⟩ = false := heap_frozen KK3.out 0 (by omega)
    have f1 : w3.frozen? ⟨K, 1, none⟩ = false := heap_frozen KK3.out 1 (by omega)
    have f2 : w3.frozen? ⟨K, 2, none⟩ = false := heap_frozen KK3.out 2 (by omega)
    have f3 : w3.frozen? ⟨K, 3, none⟩ = false := heap_frozen KK3.out 3 (by omega)
    have f4 : w3.frozen? ⟨K, 4, none⟩ = false := heap_frozen KK3.out 4 (by omega)
    go_upto_region 9 with fail
    obtain ⟨HH4, KK4, G4⟩ := E.out
    clear b0 b1 b2 b3 b4 y0 y1 y2 y3 y4 k0 k1 k2 k3 k4 f0 f1 f2 f3 f4
    clear E Y hO3 hN3 hin3 BH3 RA3 RB3 KK3 G3
    generalize ((((((((((w3.setCell ⟨H, 0, none⟩ (.slice p n cap)).setCell ⟨H, 1, none⟩ (.int .i64 (fin : Int))).setCell ⟨H, 2, none⟩ (.int .i64 (at' : Int))).setCell ⟨H, 3, none⟩ (.int .i64 (e' : Int))).setCell ⟨H, 4, none⟩ (.int .i64 (pos' : Int))).setCell ⟨K, 0, none⟩ (.int .i64 mk)).setCell ⟨K, 1, none⟩ (.slice mp ml mc)).setCell ⟨K, 2, none⟩ (.string mf)).setCell ⟨K, 3, none⟩ (.string ms)).setCell ⟨K, 4, none⟩ (.int .i64 mx)) = w4 at *
    replace HH4 := hid HH4
    replace KK4 := hid KK4
    replace G4 := hid G4
    have k0 : w4.cell? ⟨K, 0, none⟩ = some (.int .i64 mk) := by rw [heap_cell KK4.out]; rfl
    have k1 : w4.cell? ⟨K, 1, none⟩ = some (.slice mp ml mc) := by rw [heap_cell KK4.out]; rfl
    have k2 : w4.cell? ⟨K, 2, none⟩ = some (.string mf) := by rw [heap_cell KK4.out]; rfl
    have k3 : w4.cell? ⟨K, 3, none⟩ = some (.string ms) := by rw [heap_cell KK4.out]; rfl
    have k4 : w4.cell? ⟨K, 4, none⟩ = some (.int .i64 mx) := by rw [heap_cell KK4.out]; rfl
    have hzK := heap_lt KK4.out
    have NB := hid (heap_new w4 (.cells #[.int .i64 mk, .slice mp ml mc, .string mf, .string ms, .int .i64 mx] 24))
    have O5 := hid (hO4.out.alloc (.cells #[.int .i64 mk, .slice mp ml mc, .string mf, .string ms, .int .i64 mx] 24))
    have N5 := hid (nodesIn.mono (fun n v h => NodeR.In.weaken (S' := Off (RB + 1) _) (fun b _ hS => hS.1) (NodeR.In.grow (Grow.alloc w4 (.cells #[.int .i64 mk, .slice mp ml mc, .string mf, .string ms, .int .i64 mx] 24)) h)) _ _ hN4.out)
    have M5 := hid (NodeR.In.grow (Grow.alloc w4 (.cells #[.int .i64 mk, .slice mp ml mc, .string mf, .string ms, .int .i64 mx] 24)) hin4.out)
    have G5 := hid (G4.out.trans (Grow.alloc w4 (.cells #[.int .i64 mk, .slice mp ml mc, .string mf, .string ms, .int .i64 mx] 24)))
    have HH5 := hid (heap_alloc_keep HH4.out (.cells #[.int .i64 mk, .slice mp ml mc, .string mf, .string ms, .int .i64 mx] 24))
    have RA5 := hid (heap_alloc_keep RA4.out (.cells #[.int .i64 mk, .slice mp ml mc, .string mf, .string ms, .int .i64 mx] 24))
    have RB5 := hid (heap_alloc_keep RB4.out (.cells #[.int .i64 mk, .slice mp ml mc, .string mf, .string ms, .int .i64 mx] 24))
    have hL5 : acc.length + 1 ≤ 4097 := by omega
    obtain ⟨i0, hi0, hz0, hz1', hz2⟩ := info_parts infoNode
    replace hi0 := hid hi0
    replace hz0 := hid hz0
    replace hz1' := hid hz1'
    replace hz2 := hid hz2
    clear hO4 hN4 hin4 HH4 RA4 RB4 G4
    go_wp2_with (at_builtin; refine wpList_append_lies _ rfl _ _ 22 rfl (RB + 1) 24 i0 _ 5 72 Tryd.underlying22 hi0.out hz0.out hz1'.out hz2.out rfl (by decide) _ acc.length xs rfl O5.out ⟨w4.heap.size, 0, none⟩ 1 1 [.int .i64 mk, .slice mp ml mc, .string mf, .string ms, .int .i64 mx] rfl rfl (World.news_of_block NB.out) (by simp [Value.oneCell']) (by omega) (by unfold maxLen; omega) (by omega) (by simp; omega) (w4.heap.size + 1) (by simp) ?_)
    intro g7 cap7 w7 hown7 hgrow7 hat7 hlt7
    have NP := hid (nodes_push (v' := .slice (some ⟨g7, 0, none⟩) (acc.length + 1) cap7) N5.out hgrow7 rfl hat7 (by simp) (lo2 := K + 1) (by omega) (fun k hk => by have := hB0.out k hk; omega) M5.out)
    have G7 := hid (grow_byO G5.out hgrow7 (fun k hk => by have := hB0.out k hk; omega))
    have HH7 := hid (heap_byO hgrow7 HH5.out (fun k hk => by have := hB0.out k hk; omega))
    have RA7 := hid (heap_byO hgrow7 RA5.out (fun k hk => by have := hB0.out k hk; omega))
    have RB7 := hid (heap_byO hgrow7 RB5.out (fun k hk => by have := hB0.out k hk; omega))
    have hb7 := ownB hown7 rfl
    replace hown7 := hid hown7
    have NXT := hid (Rnext_c p n cap fin at' e' pos' T w7 (HT.out.grow G7.out) (by omega) (by omega))
    unfold rdV at NXT
    clear hi0 hz0 hz1' hz2 N5 M5 O5 G5 NB KK4 HH5 RA5 RB5 hgrow7 hat7 hlt7 hB0 k0 k1 k2 k3 k4 hzK
    have b0 : w7.cell? ⟨H, 0, none⟩ = some (.slice p n cap) := by rw [heap_cell HH7.out]; rfl
    have b1 : w7.cell? ⟨H, 1, none⟩ = some (.int .i64 (fin : Int)) := by rw [heap_cell HH7.out]; rfl
    have b2 : w7.cell? ⟨H, 2, none⟩ = some (.int .i64 (at' : Int)) := by rw [heap_cell HH7.out]; rfl
    have b3 : w7.cell? ⟨H, 3, none⟩ = some (.int .i64 (e' : Int)) := by rw [heap_cell HH7.out]; rfl
    have b4 : w7.cell? ⟨H, 4, none⟩ = some (.int .i64 (pos' : Int)) := by rw [heap_cell HH7.out]; rfl
    have hzH7 := heap_lt HH7.out
    go_wp2_with fail
    refine NXT.out.mono ?_
    rintro e w8 ⟨rfl, g8⟩
    unfold tokV
    have HH8 := hid (g8.heap HH7.out)
    have RA8 := hid (g8.heap RA7.out)
    have RB8 := hid (g8.heap RB7.out)
    have O8 := hid (own_growR hown7.out g8)
    have N8 := hid (nodesIn.mono (fun n v h => NodeR.In.grow g8 h) _ _ NP.out)
    have G8 := hid (G7.out.trans g8)
    have hs8 := g8.size
    generalize nextK T at' e' = nx at *
    have FT := run_rtok1 (.int .i64 (nx.kind : Int)) (.string nx.str) (.int .i64 nx.num) (.int .i64 (nx.pos : Int))
    clear b0 b1 b2 b3 b4 HH7 RA7 RB7 NP hown7 G7 g8 NXT
    rcases hcase.out with ⟨c1, rfl, rfl, c4, c5, c6⟩ | ⟨c1, c2⟩
    · have hstr : nx.str.toList = [97, 110, 100] := (congrArg ByteArray.toList c1).trans (by kernel_rfl)
      replace c6 := hid c6
      clear c1 hcase
      have ON := hid (Ron_c p n cap fin at' 0 0 w8 (by omega))
      unfold rdV at ON
      have b0 : w8.cell? ⟨H, 0, none⟩ = some (.slice p n cap) := by rw [heap_cell HH8.out]; rfl
      have b1 : w8.cell? ⟨H, 1, none⟩ = some (.int .i64 (fin : Int)) := by rw [heap_cell HH8.out]; rfl
      have b2 : w8.cell? ⟨H, 2, none⟩ = some (.int .i64 (at' : Int)) := by rw [heap_cell HH8.out]; rfl
      have b3 : w8.cell? ⟨H, 3, none⟩ = some (.int .i64 0) := by rw [heap_cell HH8.out]; rfl
      have b4 : w8.cell? ⟨H, 4, none⟩ = some (.int .i64 0) := by rw [heap_cell HH8.out]; rfl
      have hzH8 := heap_lt HH8.out
      go_wp2_with fail
      refine ON.out.mono ?_
      rintro e w9 ⟨rfl, g9⟩
      have HH9 := g9.heap HH8.out
      have RA9 := g9.heap RA8.out
      have RB9 := g9.heap RB8.out
      clear b0 b1 b2 b3 b4 ON
      have Z5 := hid (set5 (G8.out.trans g9) hws HH9 (.slice p n cap) (.int .i64 (fin : Int)) (.int .i64 ((at' : Int) + 1)) (.int .i64 0) (.int .i64 0))
      have Y5 := hid (by10 w9 H H (.slice p n cap) (.int .i64 (fin : Int)) (.int .i64 ((at' : Int) + 1)) (.int .i64 0) (.int .i64 0) undef undef undef undef undef).1
      have O9 := hid ((own_growR O8.out g9).kept Y5.out (.inr (by show some g7 ≠ some H; simp; omega)))
      have N9 := hid (nodesIn.mono (fun n v h => NodeR.In.grown (row := some H) (fun b hb hS => by have := hS.1; simp; omega) Y5.out (NodeR.In.grow g9 h)) _ _ N8.out)
      have RA10 := hid (Z5.out.2.2.1 RA _ nAH RA9)
      have RB10 := hid (Z5.out.2.2.1 RB _ nBH RB9)
      have hzH9 := heap_lt HH9
      have b0 : w9.cell? ⟨H, 0, none⟩ = some (.slice p n cap) := by rw [heap_cell HH9]; rfl
      have b1 : w9.cell? ⟨H, 1, none⟩ = some (.int .i64 (fin : Int)) := by rw [heap_cell HH9]; rfl
      have b2 : w9.cell? ⟨H, 2, none⟩ = some (.int .i64 (at' : Int)) := by rw [heap_cell HH9]; rfl
      have b3 : w9.cell? ⟨H, 3, none⟩ = some (.int .i64 0) := by rw [heap_cell HH9]; rfl
      have b4 : w9.cell? ⟨H, 4, none⟩ = some (.int .i64 0) := by rw [heap_cell HH9]; rfl
      have y0 : w9.frozen? ⟨H, 0, none⟩ = false := heap_frozen HH9 0 (by omega)
      have y1 : w9.frozen? ⟨H, 1, none⟩ = false := heap_frozen HH9 1 (by omega)
      have y2 : w9.frozen? ⟨H, 2, none⟩ = false := heap_frozen HH9 2 (by omega)
      have y3 : w9.frozen? ⟨H, 3, none⟩ = false := heap_frozen HH9 3 (by omega)
      have y4 : w9.frozen? ⟨H, 4, none⟩ = false := heap_frozen HH9 4 (by omega)
      replace HH9 := hid HH9
      clear g9 RA9 RB9 O8 N8
      go_wp2_with fail
      go_roundw
      case rel =>
        exact ⟨acc ++ [nd], _, at' + 1, by omega, by simp; omega, by rw [List.length_append]; exact O9, N9, c6, hid Z5.out.2.1, by have h := Z5.out.1; exact hid h, RA10, RB10⟩
      case measure =>
        rw [hmeas.out]
        have h := leftA_eq (m := T.length) (a := at' + 1) Z5.out.1
        push_cast at h ⊢
        rw [h]
        omega
    · have hnstr : ¬nx.str.toList = [97, 110, 100] := fun e => c1 (toList_injR (e.trans (Eq.symm (show ByteArray.toList bAnd = [97, 110, 100] from by kernel_rfl))))
      have hnstr2 : (nx.str.toList == [97, 110, 100]) = false := by simpa using hnstr
      replace c2 := hid c2
      clear c1 hcase
      have b0 : w8.cell? ⟨H, 0, none⟩ = some (.slice p n cap) := by rw [heap_cell HH8.out]; rfl
      have b1 : w8.cell? ⟨H, 1, none⟩ = some (.int .i64 (fin : Int)) := by rw [heap_cell HH8.out]; rfl
      have b2 : w8.cell? ⟨H, 2, none⟩ = some (.int .i64 (at' : Int)) := by rw [heap_cell HH8.out]; rfl
      have b3 : w8.cell? ⟨H, 3, none⟩ = some (.int .i64 (e' : Int)) := by rw [heap_cell HH8.out]; rfl
      have b4 : w8.cell? ⟨H, 4, none⟩ = some (.int .i64 (pos' : Int)) := by rw [heap_cell HH8.out]; rfl
      have z0 : w8.cell? ⟨RA, 0, none⟩ = some (.slice none 0 0) := by rw [heap_cell RA8.out]; rfl
      have z1 : w8.cell? ⟨RA, 1, none⟩ = some (.int .i64 0) := by rw [heap_cell RA8.out]; rfl
      have z2 : w8.cell? ⟨RA, 2, none⟩ = some (.int .i64 0) := by rw [heap_cell RA8.out]; rfl
      have z3 : w8.cell? ⟨RA, 3, none⟩ = some (.int .i64 0) := by rw [heap_cell RA8.out]; rfl
      have z4 : w8.cell? ⟨RA, 4, none⟩ = some (.int .i64 0) := by rw [heap_cell RA8.out]; rfl
      have zf0 : w8.frozen? ⟨RA, 0, none⟩ = false := heap_frozen RA8.out 0 (by omega)
      have zf1 : w8.frozen? ⟨RA, 1, none⟩ = false := heap_frozen RA8.out 1 (by omega)
      have zf2 : w8.frozen? ⟨RA, 2, none⟩ = false := heap_frozen RA8.out 2 (by omega)
      have zf3 : w8.frozen? ⟨RA, 3, none⟩ = false := heap_frozen RA8.out 3 (by omega)
      have zf4 : w8.frozen? ⟨RA, 4, none⟩ = false := heap_frozen RA8.out 4 (by omega)
      have x0 : w8.cell? ⟨RB, 0, none⟩ = some (.int .i64 0) := by rw [heap_cell RB8.out]; rfl
      have x1 : w8.cell? ⟨RB, 1, none⟩ = some (.slice none 0 0) := by rw [heap_cell RB8.out]; rfl
      have x2 : w8.cell? ⟨RB, 2, none⟩ = some (.string ⟨#[]⟩) := by rw [heap_cell RB8.out]; rfl
      have x3 : w8.cell? ⟨RB, 3, none⟩ = some (.string ⟨#[]⟩) := by rw [heap_cell RB8.out]; rfl
      have x4 : w8.cell? ⟨RB, 4, none⟩ = some (.int .i64 0) := by rw [heap_cell RB8.out]; rfl
      have xf0 : w8.frozen? ⟨RB, 0, none⟩ = false := heap_frozen RB8.out 0 (by omega)
      have xf1 : w8.frozen? ⟨RB, 1, none⟩ = false := heap_frozen RB8.out 1 (by omega)
      have xf2 : w8.frozen? ⟨RB, 2, none⟩ = false := heap_frozen RB8.out 2 (by omega)
      have xf3 : w8.frozen? ⟨RB, 3, none⟩ = false := heap_frozen RB8.out 3 (by omega)
      have xf4 : w8.frozen? ⟨RB, 4, none⟩ = false := heap_frozen RB8.out 4 (by omega)
      have hzH8 := heap_lt HH8.out
      by_cases hac : acc = []
      · subst hac
        obtain rfl : xs = [] := by
          have h := O8.out.1
          simp at h
          exact h
        have hcc := World.ownsRow.cells O8.out (g := g7) rfl
        have m0 : w8.cell? ⟨g7, 0, none⟩ = some (.int .i64 mk) := hcc 0 _ rfl
        have m1 : w8.cell? ⟨g7, 1, none⟩ = some (.slice mp ml mc) := hcc 1 _ rfl
        have m2 : w8.cell? ⟨g7, 2, none⟩ = some (.string mf) := hcc 2 _ rfl
        have m3 : w8.cell? ⟨g7, 3, none⟩ = some (.string ms) := hcc 3 _ rfl
        have m4 : w8.cell? ⟨g7, 4, none⟩ = some (.int .i64 mx) := hcc 4 _ rfl
        clear hcc
        go_wp2_with fail
        go_region
        go_wp2_with fail
        (try simp only [Exit.inBlock, Exit.then])
        have E := store10 G8.out (r4 := RA) (r5 := RB) (by omega) (by omega) nAB RA8.out RB8.out (.slice p n cap) (.int .i64 (fin : Int)) (.int .i64 (at' : Int)) (.int .i64 (e' : Int)) (.int .i64 (pos' : Int)) (.int .i64 mk) (.slice mp ml mc) (.string mf) (.string ms) (.int .i64 mx)
        have Y := by10 w8 RA RB (.slice p n cap) (.int .i64 (fin : Int)) (.int .i64 (at' : Int)) (.int .i64 (e' : Int)) (.int .i64 (pos' : Int)) (.int .i64 mk) (.slice mp ml mc) (.string mf) (.string ms) (.int .i64 mx)
        obtain ⟨d0, d1, d2, d3, d4, ys, ex, hin8, -⟩ := N8.out
        simp only [List.nil_append, List.cons.injEq] at ex
        obtain ⟨rfl, rfl, rfl, rfl, rfl, -⟩ := ex
        have hinE := NodeR.In.weaken (S' := fun b => w.heap.size ≤ b) (fun b _ hS => by have := hS.1; show w.heap.size ≤ b; omega) (in10 Y.1 Y.2 (fun x hx hS => ⟨by have := hS.1; omega, by have := hS.1; omega⟩) hin8)
        have h2 := c2.out
        refine read_ret (nd := nd) (at' := at') (e' := e') (pos' := pos') rfl rfl rfl ((Grow.drew _).heap E.1) ((Grow.drew _).heap E.2.1) (Grow.drewR E.2.2) (NodeR.In.grow (Grow.drew _) hinE) hat' he' ?_
        cases res with
        | bad k q => exact h2
        | ok x R => exact ⟨h2.1, h2.2⟩
      · have hl1 : ¬acc.length = 0 := fun e => hac (List.eq_nil_of_length_eq_zero e)
        have hl2 : ((acc.length : Int) + 1 == 1) = false := by rw [beq_eq_false_iff_ne]; omega
        have hl3 : ¬(acc.length : Int) + 1 = 1 := by omega
        have hl4 : (acc.length : Int) ≤ 4097 := by omega
        have hlen : (acc ++ [nd]).length = acc.length + 1 := by simp
        replace hlen := hid hlen
        go_wp2_with fail
        (try simp only [Exit.inBlock, Exit.then])
        have E := store10 G8.out (r4 := RA) (r5 := RB) (by omega) (by omega) nAB RA8.out RB8.out (.slice p n cap) (.int .i64 (fin : Int)) (.int .i64 (at' : Int)) (.int .i64 (e' : Int)) (.int .i64 (pos' : Int)) (.int .i64 2) (.slice (some ⟨g7, 0, none⟩) (acc.length + 1) cap7) (.string ⟨#[]⟩) (.string ⟨#[]⟩) (.int .i64 0)
        have Y := by10 w8 RA RB (.slice p n cap) (.int .i64 (fin : Int)) (.int .i64 (at' : Int)) (.int .i64 (e' : Int)) (.int .i64 (pos' : Int)) (.int .i64 2) (.slice (some ⟨g7, 0, none⟩) (acc.length + 1) cap7) (.string ⟨#[]⟩) (.string ⟨#[]⟩) (.int .i64 0)
        have OE := own10 Y.1 Y.2 O8.out (by show some g7 ≠ some RA; simp; omega) (by show some g7 ≠ some RB; simp; omega)
        have NE := nodesIn.mono (fun n v h => in10 Y.1 Y.2 (fun x hx hS => ⟨by have := hS.1; omega, by have := hS.1; omega⟩) h) _ _ N8.out
        have hinE := NodeR.In.joins (lo := w.heap.size) (acc := acc ++ [nd]) (by simp) (by omega) (by rw [hlen.out]; exact OE) NE 2 ⟨#[]⟩ ⟨#[]⟩ 0
        have h2 := c2.out
        refine read_ret (nd := .mk 2 (acc ++ [nd]) ⟨#[]⟩ ⟨#[]⟩ 0) (at' := at') (e' := e') (pos' := pos') rfl rfl rfl E.1 E.2.1 E.2.2 hinE hat' he' ?_
        cases res with
        | bad k q => exact h2
        | ok x R =>
          simp only [if_neg hac] at h2
          exact ⟨h2.1, h2.2⟩
set_option maxRecDepth 100000 in
set_option maxHeartbeats 8000000 in
theorem RListT_c (p : Option Addr) (n cap fin at_ deep : Nat) (T : List Tok) (w : World) (part : List Tok → PR NodeR) (hl : ∀ L n R, part L = .ok n R → R.length ≤ L.length) (hT : TokS w p n cap T) (hat : at_ ≤ T.length) (hd : deep ≤ 40)
    (HI : ∀ (a : Nat) (w' : World), TokS w' p n cap T → a ≤ T.length → Calls Tryd.prog 22 #[rdV p n cap fin a 0 0, .int .i64 (deep : Int), .bool false] w' (RPost T p n cap fin (part (T.drop a)) w')) :
    Calls Tryd.prog 22 #[rdV p n cap fin at_ 0 0, .int .i64 (deep : Int), .bool true] w (RPost T p n cap fin (listP 1 bOr part (T.drop at_)) w) := by
  have HT := hid hT
  have hn4 : T.length ≤ 4096 := by rw [← hT.1]; exact hT.cells.1
  have HI0 := hid HI
  have HL := hid hl
  have hres0 := hid (headP_start 1 bOr part (T.drop at_))
  generalize listP 1 bOr part (T.drop at_) = res at *
  unfold rdV
  rw [show ((0 : Nat) : Int) = (0 : Int) from rfl]
  have hd1 : (deep : Int) ≤ 40 := by omega
  have G0 := hid (Grow.trans (Grow.trans (Grow.alloc w (.cells #[.slice p n cap, .int .i64 (fin : Int), .int .i64 (at_ : Int), .int .i64 0, .int .i64 0] 52)) (Grow.alloc _ ReadZ)) (Grow.alloc _ NodeZ))
  have B0 := hid (heap_alloc_keep (heap_alloc_keep (heap_new w (.cells #[.slice p n cap, .int .i64 (fin : Int), .int .i64 (at_ : Int), .int .i64 0, .int .i64 0] 52)) ReadZ) NodeZ)
  have R40 := hid (heap_alloc_keep (heap_newAt (w.alloc (.cells #[.slice p n cap, .int .i64 (fin : Int), .int .i64 (at_ : Int), .int .i64 0, .int .i64 0] 52)) ReadZ (g := w.heap.size + 1) (by simp)) NodeZ)
  have R50 := hid (heap_newAt ((w.alloc (.cells #[.slice p n cap, .int .i64 (fin : Int), .int .i64 (at_ : Int), .int .i64 0, .int .i64 0] 52)).alloc ReadZ) NodeZ (g := w.heap.size + 1 + 1) (by simp))
  clear hT HI hl
  replace hat := hid hat
  go_enter Tryd.func22, Tryd.ntmps22
  go_wp2_with fail
  generalize ((w.alloc (.cells #[.slice p n cap, .int .i64 (fin : Int), .int .i64 (at_ : Int), .int .i64 0, .int .i64 0] 52)).alloc ReadZ).alloc NodeZ = w0 at *
  generalize hH : w.heap.size = H at *
  have hws : w.heap.size ≤ H := Nat.le_of_eq hH
  replace hH := hid hH
  have hA1 : H < H + 1 := by omega
  have hB1 : H + 1 < H + 1 + 1 := by omega
  generalize H + 1 + 1 = RB at *
  generalize H + 1 = RA at *
  have nHA : H ≠ RA := by omega
  have nHB : H ≠ RB := by omega
  have nAB : RA ≠ RB := by omega
  have nAH : RA ≠ H := by omega
  have nBH : RB ≠ H := by omega
  have nBA : RB ≠ RA := by omega
  go_loopw [10, 11] (fun v _ wr => ∃ (acc : List NodeR) (xs : List Value) (a : Nat), a ≤ T.length ∧ acc.length ≤ a ∧ Hid (wr.ownsRow (RB + 1) 24 5 v acc.length xs) ∧ Hid (nodesIn (Off (RB + 1) v) wr acc xs) ∧ Hid (headP 1 bOr part acc (T.drop a) = res) ∧ Hid (Grow w wr) ∧ Hid (wr.heap[H]? = some (.cells #[.slice p n cap, .int .i64 (fin : Int), .int .i64 (a : Int), .int .i64 0, .int .i64 0] 52)) ∧ Hid (wr.heap[RA]? = some ReadZ) ∧ Hid (wr.heap[RB]? = some NodeZ)) (fun _ _ wr => leftA H T.length wr)
  case atStart => exact ⟨[], [], at_, hat.out, Nat.zero_le _, hid (World.ownsRow_nil _ _ _ _), hid rfl, hres0, G0, B0, R40, R50⟩
  case round =>
    obtain ⟨acc, xs, a, ha, hacc, HO, HN, HM, HG, HB, HA, HBB⟩ := hrel
    have b0 : wr.cell? ⟨H, 0, none⟩ = some (.slice p n cap) := by rw [heap_cell HB.out]; rfl
    have b1 : wr.cell? ⟨H, 1, none⟩ = some (.int .i64 (fin : Int)) := by rw [heap_cell HB.out]; rfl
    have b2 : wr.cell? ⟨H, 2, none⟩ = some (.int .i64 (a : Int)) := by rw [heap_cell HB.out]; rfl
    have b3 : wr.cell? ⟨H, 3, none⟩ = some (.int .i64 0) := by rw [heap_cell HB.out]; rfl
    have b4 : wr.cell? ⟨H, 4, none⟩ = some (.int .i64 0) := by rw [heap_cell HB.out]; rfl
    have hz1 := heap_lt HBB.out
    have hz0 := heap_lt HB.out
    have INN := hid (HI0.out a (wr.alloc NodeZ) (HT.out.grow (HG.out.trans (Grow.alloc wr NodeZ))) ha)
    unfold rdV at INN
    have hmeas : leftA H T.length wr = T.length - a := leftA_eq HB.out
    replace hmeas := hid hmeas
    go_wp2_with fail
    refine INN.out.mono ?_
    rintro e w3 ⟨at', e', pos', nd, v3, rfl, hin, g3, hat', he', hm⟩
    unfold rdV
    obtain ⟨mk, mp, ml, mc, mf, ms, mx, rfl⟩ := NodeR.In.value hin
    have hcase := hid (round_cases HL.out (by decide) ha hat' hm HM.out)
    have GK := hid (Grow.trans (Grow.alloc wr NodeZ) g3)
    have BH3 := hid (GK.out.heap HB.out)
    have RA3 := hid (GK.out.heap HA.out)
    have RB3 := hid (GK.out.heap HBB.out)
    have KK3 := hid (g3.heap (heap_new wr NodeZ))
    have hO3 := hid (own_growR HO.out GK.out)
    have hN3 := hid (nodesIn.mono (fun n v h => NodeR.In.grow GK.out (NodeR.In.weaken (fun b hb hS => (⟨hS, hb⟩ : Off (RB + 1) _ b ∧ b < wr.heap.size)) h)) _ _ HN.out)
    have hB0 := hid (fun g hg => ownB (g := g) HO.out hg)
    have G3 := hid (HG.out.trans GK.out)
    have hin3 := hid hin
    have hs3 : wr.heap.size + 1 ≤ w3.heap.size := by have := g3.size; simpa using this
    have hK0 : w.heap.size ≤ wr.heap.size := HG.out.size
    have hsz : (wr.alloc NodeZ).heap.size = wr.heap.size + 1 := by simp
    rw [hsz] at hin3
    clear hin hm g3 HO HN HG HB HA HBB GK INN hsz b0 b1 b2 b3 b4
    generalize hK : wr.heap.size = K at *
    have nKH : K ≠ H := by omega
    have nHK : H ≠ K := by omega
    have nKA : RA ≠ K := by omega
    have nKB : RB ≠ K := by omega
    replace hK := hid hK
    have E := hid (store10 G3.out hws hK0 nHK BH3.out KK3.out (.slice p n cap) (.int .i64 (fin : Int)) (.int .i64 (at' : Int)) (.int .i64 (e' : Int)) (.int .i64 (pos' : Int)) (.int .i64 mk) (.slice mp ml mc) (.string mf) (.string ms) (.int .i64 mx))
    have Y := hid (by10 w3 H K (.slice p n cap) (.int .i64 (fin : Int)) (.int .i64 (at' : Int)) (.int .i64 (e' : Int)) (.int .i64 (pos' : Int)) (.int .i64 mk) (.slice mp ml mc) (.string mf) (.string ms) (.int .i64 mx))
    have hO4 := hid (own10 Y.out.1 Y.out.2 hO3.out (fun e => by have := hB0.out _ e; omega) (fun e => by have := hB0.out _ e; omega))
    have hN4 := hid (nodesIn.mono (fun n v h => in10 Y.out.1 Y.out.2 (fun x hx hS => ⟨by have := hS.1.1; omega, by have := hS.2; omega⟩) (NodeR.In.weaken (fun b _ hS => hS) h)) _ _ hN3.out)
    have hin4 := hid (in10 Y.out.1 Y.out.2 (fun x hx hS => ⟨by have h : K + 1 ≤ x := hS; omega, by have h : K + 1 ≤ x := hS; omega⟩) hin3.out)
    have RA4 := hid (heap10 Y.out.1 Y.out.2 nAH nKA RA3.out)
    have RB4 := hid (heap10 Y.out.1 Y.out.2 nBH nKB RB3.out)
    have b0 : w3.cell? ⟨H, 0, none⟩ = some (.slice p n cap) := by rw [heap_cell BH3.out]; rfl
    have b1 : w3.cell? ⟨H, 1, none⟩ = some (.int .i64 (fin : Int)) := by rw [heap_cell BH3.out]; rfl
    have b2 : w3.cell? ⟨H, 2, none⟩ = some (.int .i64 (a : Int)) := by rw [heap_cell BH3.out]; rfl
    have b3 : w3.cell? ⟨H, 3, none⟩ = some (.int .i64 0) := by rw [heap_cell BH3.out]; rfl
    have b4 : w3.cell? ⟨H, 4, none⟩ = some (.int .i64 0) := by rw [heap_cell BH3.out]; rfl
    have y0 : w3.frozen? ⟨H, 0, none⟩ = false := heap_frozen BH3.out 0 (by omega)
    have y1 : w3.frozen? ⟨H, 1, none⟩ = false := heap_frozen BH3.out 1 (by omega)
    have y2 : w3.frozen? ⟨H, 2, none⟩ = false := heap_frozen BH3.out 2 (by omega)
    have y3 : w3.frozen? ⟨H, 3, none⟩ = false := heap_frozen BH3.out 3 (by omega)
    have y4 : w3.frozen? ⟨H, 4, none⟩ = false := heap_frozen BH3.out 4 (by omega)
    have k0 : w3.cell? ⟨K, 0, none⟩ = some (.int .i64 0) := by rw [heap_cell KK3.out]; rfl
    have k1 : w3.cell? ⟨K, 1, none⟩ = some (.slice none 0 0) := by rw [heap_cell KK3.out]; rfl
    have k2 : w3.cell? ⟨K, 2, none⟩ = some (.string ⟨#[]⟩) := by rw [heap_cell KK3.out]; rfl
    have k3 : w3.cell? ⟨K, 3, none⟩ = some (.string ⟨#[]⟩) := by rw [heap_cell KK3.out]; rfl
    have k4 : w3.cell? ⟨K, 4, none⟩ = some (.int .i64 0) := by rw [heap_cell KK3.out]; rfl
    have f0 : w3.frozen? ⟨K, 0, none⟩ = false := heap_frozen KK3.out 0 (by omega)
    have f1 : w3.frozen? ⟨K, 1, none⟩ = false := heap_frozen KK3.out 1 (by omega)
    have f2 : w3.frozen? ⟨K, 2, none⟩ = false := heap_frozen KK3.out 2 (by omega)
    have f3 : w3.frozen? ⟨K, 3, none⟩ = false := heap_frozen KK3.out 3 (by omega)
    have f4 : w3.frozen? ⟨K, 4, none⟩ = false := heap_frozen KK3.out 4 (by omega)
    go_upto_region 9 with fail
    obtain ⟨HH4, KK4, G4⟩ := E.out
    clear b0 b1 b2 b3 b4 y0 y1 y2 y3 y4 k0 k1 k2 k3 k4 f0 f1 f2 f3 f4
    clear E Y hO3 hN3 hin3 BH3 RA3 RB3 KK3 G3
    generalize ((((((((((w3.setCell ⟨H, 0, none⟩ (.slice p n cap)).setCell ⟨H, 1, none⟩ (.int .i64 (fin : Int))).setCell ⟨H, 2, none⟩ (.int .i64 (at' : Int))).setCell ⟨H, 3, none⟩ (.int .i64 (e' : Int))).setCell ⟨H, 4, none⟩ (.int .i64 (pos' : Int))).setCell ⟨K, 0, none⟩ (.int .i64 mk)).setCell ⟨K, 1, none⟩ (.slice mp ml mc)).setCell ⟨K, 2, none⟩ (.string mf)).setCell ⟨K, 3, none⟩ (.string ms)).setCell ⟨K, 4, none⟩ (.int .i64 mx)) = w4 at *
    replace HH4 := hid HH4
    replace KK4 := hid KK4
    replace G4 := hid G4
    have k0 : w4.cell? ⟨K, 0, none⟩ = some (.int .i64 mk) := by rw [heap_cell KK4.out]; rfl
    have k1 : w4.cell? ⟨K, 1, none⟩ = some (.slice mp ml mc) := by rw [heap_cell KK4.out]; rfl
    have k2 : w4.cell? ⟨K, 2, none⟩ = some (.string mf) := by rw [heap_cell KK4.out]; rfl
    have k3 : w4.cell? ⟨K, 3, none⟩ = some (.string ms) := by rw [heap_cell KK4.out]; rfl
    have k4 : w4.cell? ⟨K, 4, none⟩ = some (.int .i64 mx) := by rw [heap_cell KK4.out]; rfl
    have hzK := heap_lt KK4.out
    have NB := hid (heap_new w4 (.cells #[.int .i64 mk, .slice mp ml mc, .string mf, .string ms, .int .i64 mx] 24))
    have O5 := hid (hO4.out.alloc (.cells #[.int .i64 mk, .slice mp ml mc, .string mf, .string ms, .int .i64 mx] 24))
    have N5 := hid (nodesIn.mono (fun n v h => NodeR.In.weaken (S' := Off (RB + 1) _) (fun b _ hS => hS.1) (NodeR.In.grow (Grow.alloc w4 (.cells #[.int .i64 mk, .slice mp ml mc, .string mf, .string ms, .int .i64 mx] 24)) h)) _ _ hN4.out)
    have M5 := hid (NodeR.In.grow (Grow.alloc w4 (.cells #[.int .i64 mk, .slice mp ml mc, .string mf, .string ms, .int .i64 mx] 24)) hin4.out)
    have G5 := hid (G4.out.trans (Grow.alloc w4 (.cells #[.int .i64 mk, .slice mp ml mc, .string mf, .string ms, .int .i64 mx] 24)))
    have HH5 := hid (heap_alloc_keep HH4.out (.cells #[.int .i64 mk, .slice mp ml mc, .string mf, .string ms, .int .i64 mx] 24))
    have RA5 := hid (heap_alloc_keep RA4.out (.cells #[.int .i64 mk, .slice mp ml mc, .string mf, .string ms, .int .i64 mx] 24))
    have RB5 := hid (heap_alloc_keep RB4.out (.cells #[.int .i64 mk, .slice mp ml mc, .string mf, .string ms, .int .i64 mx] 24))
    have hL5 : acc.length + 1 ≤ 4097 := by omega
    obtain ⟨i0, hi0, hz0, hz1', hz2⟩ := info_parts infoNode
    replace hi0 := hid hi0
    replace hz0 := hid hz0
    replace hz1' := hid hz1'
    replace hz2 := hid hz2
    clear hO4 hN4 hin4 HH4 RA4 RB4 G4
    go_wp2_with (at_builtin; refine wpList_append_lies _ rfl _ _ 22 rfl (RB + 1) 24 i0 _ 5 72 Tryd.underlying22 hi0.out hz0.out hz1'.out hz2.out rfl (by decide) _ acc.length xs rfl O5.out ⟨w4.heap.size, 0, none⟩ 1 1 [.int .i64 mk, .slice mp ml mc, .string mf, .string ms, .int .i64 mx] rfl rfl (World.news_of_block NB.out) (by simp [Value.oneCell']) (by omega) (by unfold maxLen; omega) (by omega) (by simp; omega) (w4.heap.size + 1) (by simp) ?_)
    intro g7 cap7 w7 hown7 hgrow7 hat7 hlt7
    have NP := hid (nodes_push (v' := .slice (some ⟨g7, 0, none⟩) (acc.length + 1) cap7) N5.out hgrow7 rfl hat7 (by simp) (lo2 := K + 1) (by omega) (fun k hk => by have := hB0.out k hk; omega) M5.out)
    have G7 := hid (grow_byO G5.out hgrow7 (fun k hk => by have := hB0.out k hk; omega))
    have HH7 := hid (heap_byO hgrow7 HH5.out (fun k hk => by have := hB0.out k hk; omega))
    have RA7 := hid (heap_byO hgrow7 RA5.out (fun k hk => by have := hB0.out k hk; omega))
    have RB7 := hid (heap_byO hgrow7 RB5.out (fun k hk => by have := hB0.out k hk; omega))
    have hb7 := ownB hown7 rfl
    replace hown7 := hid hown7
    have NXT := hid (Rnext_c p n cap fin at' e' pos' T w7 (HT.out.grow G7.out) (by omega) (by omega))
    unfold rdV at NXT
    clear hi0 hz0 hz1' hz2 N5 M5 O5 G5 NB KK4 HH5 RA5 RB5 hgrow7 hat7 hlt7 hB0 k0 k1 k2 k3 k4 hzK
    have b0 : w7.cell? ⟨H, 0, none⟩ = some (.slice p n cap) := by rw [heap_cell HH7.out]; rfl
    have b1 : w7.cell? ⟨H, 1, none⟩ = some (.int .i64 (fin : Int)) := by rw [heap_cell HH7.out]; rfl
    have b2 : w7.cell? ⟨H, 2, none⟩ = some (.int .i64 (at' : Int)) := by rw [heap_cell HH7.out]; rfl
    have b3 : w7.cell? ⟨H, 3, none⟩ = some (.int .i64 (e' : Int)) := by rw [heap_cell HH7.out]; rfl
    have b4 : w7.cell? ⟨H, 4, none⟩ = some (.int .i64 (pos' : Int)) := by rw [heap_cell HH7.out]; rfl
    have hzH7 := heap_lt HH7.out
    go_wp2_with fail
    refine NXT.out.mono ?_
    rintro e w8 ⟨rfl, g8⟩
    unfold tokV
    have HH8 := hid (g8.heap HH7.out)
    have RA8 := hid (g8.heap RA7.out)
    have RB8 := hid (g8.heap RB7.out)
    have O8 := hid (own_growR hown7.out g8)
    have N8 := hid (nodesIn.mono (fun n v h => NodeR.In.grow g8 h) _ _ NP.out)
    have G8 := hid (G7.out.trans g8)
    have hs8 := g8.size
    generalize nextK T at' e' = nx at *
    have FT := run_rtok1 (.int .i64 (nx.kind : Int)) (.string nx.str) (.int .i64 nx.num) (.int .i64 (nx.pos : Int))
    clear b0 b1 b2 b3 b4 HH7 RA7 RB7 NP hown7 G7 g8 NXT
    rcases hcase.out with ⟨c1, rfl, rfl, c4, c5, c6⟩ | ⟨c1, c2⟩
    · have hstr : nx.str.toList = [111, 114] := (congrArg ByteArray.toList c1).trans (by kernel_rfl)
      replace c6 := hid c6
      clear c1 hcase
      have ON := hid (Ron_c p n cap fin at' 0 0 w8 (by omega))
      unfold rdV at ON
      have b0 : w8.cell? ⟨H, 0, none⟩ = some (.slice p n cap) := by rw [heap_cell HH8.out]; rfl
      have b1 : w8.cell? ⟨H, 1, none⟩ = some (.int .i64 (fin : Int)) := by rw [heap_cell HH8.out]; rfl
      have b2 : w8.cell? ⟨H, 2, none⟩ = some (.int .i64 (at' : Int)) := by rw [heap_cell HH8.out]; rfl
      have b3 : w8.cell? ⟨H, 3, none⟩ = some (.int .i64 0) := by rw [heap_cell HH8.out]; rfl
      have b4 : w8.cell? ⟨H, 4, none⟩ = some (.int .i64 0) := by rw [heap_cell HH8.out]; rfl
      have hzH8 := heap_lt HH8.out
      go_wp2_with fail
      refine ON.out.mono ?_
      rintro e w9 ⟨rfl, g9⟩
      have HH9 := g9.heap HH8.out
      have RA9 := g9.heap RA8.out
      have RB9 := g9.heap RB8.out
      clear b0 b1 b2 b3 b4 ON
      have Z5 := hid (set5 (G8.out.trans g9) hws HH9 (.slice p n cap) (.int .i64 (fin : Int)) (.int .i64 ((at' : Int) + 1)) (.int .i64 0) (.int .i64 0))
      have Y5 := hid (by10 w9 H H (.slice p n cap) (.int .i64 (fin : Int)) (.int .i64 ((at' : Int) + 1)) (.int .i64 0) (.int .i64 0) undef undef undef undef undef).1
      have O9 := hid ((own_growR O8.out g9).kept Y5.out (.inr (by show some g7 ≠ some H; simp; omega)))
      have N9 := hid (nodesIn.mono (fun n v h => NodeR.In.grown (row := some H) (fun b hb hS => by have := hS.1; simp; omega) Y5.out (NodeR.In.grow g9 h)) _ _ N8.out)
      have RA10 := hid (Z5.out.2.2.1 RA _ nAH RA9)
      have RB10 := hid (Z5.out.2.2.1 RB _ nBH RB9)
      have hzH9 := heap_lt HH9
      have b0 : w9.cell? ⟨H, 0, none⟩ = some (.slice p n cap) := by rw [heap_cell HH9]; rfl
      have b1 : w9.cell? ⟨H, 1, none⟩ = some (.int .i64 (fin : Int)) := by rw [heap_cell HH9]; rfl
      have b2 : w9.cell? ⟨H, 2, none⟩ = some (.int .i64 (at' : Int)) := by rw [heap_cell HH9]; rfl
      have b3 : w9.cell? ⟨H, 3, none⟩ = some (.int .i64 0) := by rw [heap_cell HH9]; rfl
      have b4 : w9.cell? ⟨H, 4, none⟩ = some (.int .i64 0) := by rw [heap_cell HH9]; rfl
      have y0 : w9.frozen? ⟨H, 0, none⟩ = false := heap_frozen HH9 0 (by omega)
      have y1 : w9.frozen? ⟨H, 1, none⟩ = false := heap_frozen HH9 1 (by omega)
      have y2 : w9.frozen? ⟨H, 2, none⟩ = false := heap_frozen HH9 2 (by omega)
      have y3 : w9.frozen? ⟨H, 3, none⟩ = false := heap_frozen HH9 3 (by omega)
      have y4 : w9.frozen? ⟨H, 4, none⟩ = false := heap_frozen HH9 4 (by omega)
      replace HH9 := hid HH9
      clear g9 RA9 RB9 O8 N8
      go_wp2_with fail
      go_roundw
      case rel =>
        exact ⟨acc ++ [nd], _, at' + 1, by omega, by simp; omega, by rw [List.length_append]; exact O9, N9, c6, hid Z5.out.2.1, by have h := Z5.out.1; exact hid h, RA10, RB10⟩
      case measure =>
        rw [hmeas.out]
        have h := leftA_eq (m := T.length) (a := at' + 1) Z5.out.1
        push_cast at h ⊢
        rw [h]
        omega
    · have hnstr : ¬nx.str.toList = [111, 114] := fun e => c1 (toList_injR (e.trans (Eq.symm (show ByteArray.toList bOr = [111, 114] from by kernel_rfl))))
      have hnstr2 : (nx.str.toList == [111, 114]) = false := by simpa using hnstr
      replace c2 := hid c2
      clear c1 hcase
      have b0 : w8.cell? ⟨H, 0, none⟩ = some (.slice p n cap) := by rw [heap_cell HH8.out]; rfl
      have b1 : w8.cell? ⟨H, 1, none⟩ = some (.int .i64 (fin : Int)) := by rw [heap_cell HH8.out]; rfl
      have b2 : w8.cell? ⟨H, 2, none⟩ = some (.int .i64 (at' : Int)) := by rw [heap_cell HH8.out]; rfl
      have b3 : w8.cell? ⟨H, 3, none⟩ = some (.int .i64 (e' : Int)) := by rw [heap_cell HH8.out]; rfl
      have b4 : w8.cell? ⟨H, 4, none⟩ = some (.int .i64 (pos' : Int)) := by rw [heap_cell HH8.out]; rfl
      have z0 : w8.cell? ⟨RA, 0, none⟩ = some (.slice none 0 0) := by rw [heap_cell RA8.out]; rfl
      have z1 : w8.cell? ⟨RA, 1, none⟩ = some (.int .i64 0) := by rw [heap_cell RA8.out]; rfl
      have z2 : w8.cell? ⟨RA, 2, none⟩ = some (.int .i64 0) := by rw [heap_cell RA8.out]; rfl
      have z3 : w8.cell? ⟨RA, 3, none⟩ = some (.int .i64 0) := by rw [heap_cell RA8.out]; rfl
      have z4 : w8.cell? ⟨RA, 4, none⟩ = some (.int .i64 0) := by rw [heap_cell RA8.out]; rfl
      have zf0 : w8.frozen? ⟨RA, 0, none⟩ = false := heap_frozen RA8.out 0 (by omega)
      have zf1 : w8.frozen? ⟨RA, 1, none⟩ = false := heap_frozen RA8.out 1 (by omega)
      have zf2 : w8.frozen? ⟨RA, 2, none⟩ = false := heap_frozen RA8.out 2 (by omega)
      have zf3 : w8.frozen? ⟨RA, 3, none⟩ = false := heap_frozen RA8.out 3 (by omega)
      have zf4 : w8.frozen? ⟨RA, 4, none⟩ = false := heap_frozen RA8.out 4 (by omega)
      have x0 : w8.cell? ⟨RB, 0, none⟩ = some (.int .i64 0) := by rw [heap_cell RB8.out]; rfl
      have x1 : w8.cell? ⟨RB, 1, none⟩ = some (.slice none 0 0) := by rw [heap_cell RB8.out]; rfl
      have x2 : w8.cell? ⟨RB, 2, none⟩ = some (.string ⟨#[]⟩) := by rw [heap_cell RB8.out]; rfl
      have x3 : w8.cell? ⟨RB, 3, none⟩ = some (.string ⟨#[]⟩) := by rw [heap_cell RB8.out]; rfl
      have x4 : w8.cell? ⟨RB, 4, none⟩ = some (.int .i64 0) := by rw [heap_cell RB8.out]; rfl
      have xf0 : w8.frozen? ⟨RB, 0, none⟩ = false := heap_frozen RB8.out 0 (by omega)
      have xf1 : w8.frozen? ⟨RB, 1, none⟩ = false := heap_frozen RB8.out 1 (by omega)
      have xf2 : w8.frozen? ⟨RB, 2, none⟩ = false := heap_frozen RB8.out 2 (by omega)
      have xf3 : w8.frozen? ⟨RB, 3, none⟩ = false := heap_frozen RB8.out 3 (by omega)
      have xf4 : w8.frozen? ⟨RB, 4, none⟩ = false := heap_frozen RB8.out 4 (by omega)
      have hzH8 := heap_lt HH8.out
      by_cases hac : acc = []
      · subst hac
        obtain rfl : xs = [] := by
          have h := O8.out.1
          simp at h
          exact h
        have hcc := World.ownsRow.cells O8.out (g := g7) rfl
        have m0 : w8.cell? ⟨g7, 0, none⟩ = some (.int .i64 mk) := hcc 0 _ rfl
        have m1 : w8.cell? ⟨g7, 1, none⟩ = some (.slice mp ml mc) := hcc 1 _ rfl
        have m2 : w8.cell? ⟨g7, 2, none⟩ = some (.string mf) := hcc 2 _ rfl
        have m3 : w8.cell? ⟨g7, 3, none⟩ = some (.string ms) := hcc 3 _ rfl
        have m4 : w8.cell? ⟨g7, 4, none⟩ = some (.int .i64 mx) := hcc 4 _ rfl
        clear hcc
        go_wp2_with fail
        go_region
        go_wp2_with fail
        (try simp only [Exit.inBlock, Exit.then])
        have E := store10 G8.out (r4 := RA) (r5 := RB) (by omega) (by omega) nAB RA8.out RB8.out (.slice p n cap) (.int .i64 (fin : Int)) (.int .i64 (at' : Int)) (.int .i64 (e' : Int)) (.int .i64 (pos' : Int)) (.int .i64 mk) (.slice mp ml mc) (.string mf) (.string ms) (.int .i64 mx)
        have Y := by10 w8 RA RB (.slice p n cap) (.int .i64 (fin : Int)) (.int .i64 (at' : Int)) (.int .i64 (e' : Int)) (.int .i64 (pos' : Int)) (.int .i64 mk) (.slice mp ml mc) (.string mf) (.string ms) (.int .i64 mx)
        obtain ⟨d0, d1, d2, d3, d4, ys, ex, hin8, -⟩ := N8.out
        simp only [List.nil_append, List.cons.injEq] at ex
        obtain ⟨rfl, rfl, rfl, rfl, rfl, -⟩ := ex
        have hinE := NodeR.In.weaken (S' := fun b => w.heap.size ≤ b) (fun b _ hS => by have := hS.1; show w.heap.size ≤ b; omega) (in10 Y.1 Y.2 (fun x hx hS => ⟨by have := hS.1; omega, by have := hS.1; omega⟩) hin8)
        have h2 := c2.out
        refine read_ret (nd := nd) (at' := at') (e' := e') (pos' := pos') rfl rfl rfl ((Grow.drew _).heap E.1) ((Grow.drew _).heap E.2.1) (Grow.drewR E.2.2) (NodeR.In.grow (Grow.drew _) hinE) hat' he' ?_
        cases res with
        | bad k q => exact h2
        | ok x R => exact ⟨h2.1, h2.2⟩
      · have hl1 : ¬acc.length = 0 := fun e => hac (List.eq_nil_of_length_eq_zero e)
        have hl2 : ((acc.length : Int) + 1 == 1) = false := by rw [beq_eq_false_iff_ne]; omega
        have hl3 : ¬(acc.length : Int) + 1 = 1 := by omega
        have hl4 : (acc.length : Int) ≤ 4097 := by omega
        have hlen : (acc ++ [nd]).length = acc.length + 1 := by simp
        replace hlen := hid hlen
        go_wp2_with fail
        (try simp only [Exit.inBlock, Exit.then])
        have E := store10 G8.out (r4 := RA) (r5 := RB) (by omega) (by omega) nAB RA8.out RB8.out (.slice p n cap) (.int .i64 (fin : Int)) (.int .i64 (at' : Int)) (.int .i64 (e' : Int)) (.int .i64 (pos' : Int)) (.int .i64 1) (.slice (some ⟨g7, 0, none⟩) (acc.length + 1) cap7) (.string ⟨#[]⟩) (.string ⟨#[]⟩) (.int .i64 0)
        have Y := by10 w8 RA RB (.slice p n cap) (.int .i64 (fin : Int)) (.int .i64 (at' : Int)) (.int .i64 (e' : Int)) (.int .i64 (pos' : Int)) (.int .i64 1) (.slice (some ⟨g7, 0, none⟩) (acc.length + 1) cap7) (.string ⟨#[]⟩) (.string ⟨#[]⟩) (.int .i64 0)
        have OE := own10 Y.1 Y.2 O8.out (by show some g7 ≠ some RA; simp; omega) (by show some g7 ≠ some RB; simp; omega)
        have NE := nodesIn.mono (fun n v h => in10 Y.1 Y.2 (fun x hx hS => ⟨by have := hS.1; omega, by have := hS.1; omega⟩) h) _ _ N8.out
        have hinE := NodeR.In.joins (lo := w.heap.size) (acc := acc ++ [nd]) (by simp) (by omega) (by rw [hlen.out]; exact OE) NE 1 ⟨#[]⟩ ⟨#[]⟩ 0
        have h2 := c2.out
        refine read_ret (nd := .mk 1 (acc ++ [nd]) ⟨#[]⟩ ⟨#[]⟩ 0) (at' := at') (e' := e') (pos' := pos') rfl rfl rfl E.1 E.2.1 E.2.2 hinE hat' he' ?_
        cases res with
        | bad k q => exact h2
        | ok x R =>
          simp only [if_neg hac] at h2
          exact ⟨h2.1, h2.2⟩
end Go.Proofs.YteilkcdbdpkbfaaDoor
