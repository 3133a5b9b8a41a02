/- The reference reads a part. -/
import Derived.Test.YteilkcdbdpkbfaaDoorQRList
import Derived.Test.YteilkcdbdpkbfaaDoorQExt
namespace Go.Proofs.YteilkcdbdpkbfaaDoor
open Go.RowKit
set_option linter.unusedVariables false
set_option linter.unusedSimpArgs false
attribute [local go_sem ↓ high] setCell_twice
theorem one_kid {S : Nat → Prop} {w : World} {b : Nat} {nd : NodeR} {c0 c1 c2 c3 c4 : Value} {ty : TypeId} (hb : S b) (hh : w.heap[b]? = some (.cells #[c0, c1, c2, c3, c4] ty)) (hn : nd.In S w (.agg #[c0, c1, c2, c3, c4])) (k : Int) (f s : ByteArray) (x : Int) :
    (NodeR.mk k [nd] f s x).In S w (.agg #[.int .i64 k, .slice (some ⟨b, 0, none⟩) 1 1, .string f, .string s, .int .i64 x]) := by
  unfold NodeR.In
  refine ⟨_, 1, rfl, Nat.le_refl _, fun _ => ⟨b, 0, rfl, hb, heap_lt hh, ?_⟩⟩
  refine nodesIn.kids [nd] [c0, c1, c2, c3, c4] 0 ⟨c0, c1, c2, c3, c4, [], rfl, hn, rfl⟩ (fun j u h => ?_)
  rw [Nat.zero_add, heap_cell hh]
  simpa using h
def notR : PR NodeR → PR NodeR
  | .ok n R => .ok (.mk 3 [n] ⟨#[]⟩ ⟨#[]⟩ 0) R
  | .bad e q => .bad e q
def openR (fin : Nat) : PR NodeR → PR NodeR
  | .ok n R => if isT R bShut then .ok n R.tail else failP fin 41 R
  | .bad e q => .bad e q
def PartOk (T : List Tok) (p : Option Addr) (n cap fin d dp : Nat) : Prop := ∀ (a : Nat) (w' : World), TokS w' p n cap T → a ≤ T.length → Calls Tryd.prog 37 #[rdV p n cap fin a 0 0, .int .i64 (dp : Int)] w' (RPost T p n cap fin (partP fin d (T.drop a)) w')
def ListOk (T : List Tok) (p : Option Addr) (n cap fin d dp : Nat) : Prop := ∀ (a : Nat) (w' : World), TokS w' p n cap T → a ≤ T.length → Calls Tryd.prog 22 #[rdV p n cap fin a 0 0, .int .i64 (dp : Int), .bool true] w' (RPost T p n cap fin (orP fin d (T.drop a)) w')
theorem open_cases {fin : Nat} {T : List Tok} {at' e' pos' : Nat} {nd : NodeR} {pr res : PR NodeR} (ha' : at' ≤ T.length)
    (hm : match pr with | .ok a R => a = nd ∧ e' = 0 ∧ pos' = 0 ∧ T.drop at' = R | .bad k q => e' = k ∧ pos' = q ∧ k ≠ 0) (hres : openR fin pr = res) :
    ((nextK T at' e').str = bShut ∧ e' = 0 ∧ pos' = 0 ∧ at' < T.length ∧ res = .ok nd (T.drop (at' + 1))) ∨ ((nextK T at' e').str ≠ bShut ∧ e' = 0 ∧ pos' = 0 ∧ res = failP fin 41 (T.drop at')) ∨ ((nextK T at' e').str ≠ bShut ∧ e' ≠ 0 ∧ res = .bad e' pos') := by
  have hb : bShut ≠ ⟨#[]⟩ := by decide
  cases pr with
  | bad k q =>
    obtain ⟨rfl, rfl, hk⟩ := hm
    right; right
    refine ⟨?_, hk, hres.symm⟩
    unfold nextK
    rw [if_pos (by omega)]
    exact fun e => hb e.symm
  | ok a R =>
    obtain ⟨rfl, rfl, rfl, hR⟩ := hm
    have hnk : nextK T at' 0 = T.getD at' ⟨0, [], 0, 0⟩ := by unfold nextK; rw [if_neg (by simp)]
    rw [hnk]
    unfold openR at hres
    cases hR2 : R with
    | nil =>
      rw [hR2] at hR hres
      have h5 : T.length ≤ at' := by
        have := congrArg List.length hR
        rw [List.length_drop] at this
        simp at this
        omega
      right; left
      refine ⟨?_, rfl, rfl, ?_⟩
      · rw [List.getD_eq_getElem?_getD, List.getElem?_eq_none h5]
        exact fun e => hb e.symm
      · rw [hR, ← hres]
        simp [isT]
    | cons t R' =>
      rw [hR2] at hR hres
      have h5 : at' < T.length := by
        have := congrArg List.length hR
        rw [List.length_drop] at this
        simp at this
        omega
      have h6 : T.getD at' ⟨0, [], 0, 0⟩ = t := by
        have := List.drop_eq_getElem_cons h5
        rw [hR] at this
        rw [List.getD_eq_getElem?_getD, List.getElem?_eq_getElem h5, Option.getD_some]
        exact (List.cons.inj this).1.symm
      have h7 : T.drop (at' + 1) = R' := by rw [← List.drop_drop, hR]; rfl
      rw [h6]
      by_cases hi : isT (t :: R') bShut = true
      · left
        refine ⟨toList_injR (by simpa [isT] using hi), rfl, rfl, h5, ?_⟩
        simp only [hi, if_true] at hres
        rw [h7, ← hres]
        rfl
      · right; left
        refine ⟨fun e => hi (by simp [isT, e]), rfl, rfl, ?_⟩
        simp only [hi, Bool.false_eq_true, if_false] at hres
        rw [hR, ← hres]
theorem nearR_eq (fin : Nat) (t : Tok) (T : List Tok) (at_ : Nat) : nearP fin (t :: T.drop (at_ + 1)) = (if (nextK T (at_ + 1) 0).kind = 2 then .ok (.mk 5 [] t.str ⟨#[]⟩ (nextK T (at_ + 1) 0).num) (T.drop (at_ + 1 + 1)) else failP fin 41 (T.drop (at_ + 1))) ∧ ((nextK T (at_ + 1) 0).kind = 2 → at_ + 1 + 1 ≤ T.length) := by
  have hnk : nextK T (at_ + 1) 0 = T.getD (at_ + 1) ⟨0, [], 0, 0⟩ := by unfold nextK; rw [if_neg (by simp)]
  rw [hnk]
  by_cases h : at_ + 1 < T.length
  · have h1 := List.drop_eq_getElem_cons h
    have h2 : T.getD (at_ + 1) ⟨0, [], 0, 0⟩ = T[at_ + 1] := by rw [List.getD_eq_getElem?_getD, List.getElem?_eq_getElem h, Option.getD_some]
    rw [h2, h1]
    refine ⟨?_, fun _ => by omega⟩
    unfold nearP
    simp only
  · have h1 : T.drop (at_ + 1) = [] := List.drop_eq_nil_of_le (by omega)
    have h2 : T.getD (at_ + 1) ⟨0, [], 0, 0⟩ = ⟨0, [], 0, 0⟩ := by rw [List.getD_eq_getElem?_getD, List.getElem?_eq_none (by omega), Option.getD_none]
    rw [h2, h1]
    refine ⟨?_, fun e => by cases e⟩
    unfold nearP
    simp
set_option maxRecDepth 100000 in
set_option maxHeartbeats 8000000 in
theorem RPartDeep (p : Option Addr) (n cap fin at_ dp : Nat) (T : List Tok) (w : World) (hT : TokS w p n cap T) (hat : at_ ≤ T.length) (hd : dp ≤ 33) (hd0 : 32 < dp) :
    Calls Tryd.prog 37 #[rdV p n cap fin at_ 0 0, .int .i64 (dp : Int)] w (RPost T p n cap fin (failP fin 44 (T.drop at_)) w) := by
  have HT := hid hT
  have hn4 : T.length ≤ 4096 := by rw [← hT.1]; exact hT.cells.1
  unfold rdV
  rw [show ((0 : Nat) : Int) = (0 : Int) from rfl]
  have hd1 : (dp : Int) ≤ 33 := by omega
  have G0 := hid (Grow.trans (Grow.trans (Grow.alloc w (.cells #[.slice p n cap, .int .i64 (fin : Int), .int .i64 (at_ : Int), .int .i64 0, .int .i64 0] 52)) (Grow.alloc _ ReadZ)) (Grow.alloc _ NodeZ))
  have B0 := hid (heap_alloc_keep (heap_alloc_keep (heap_new w (.cells #[.slice p n cap, .int .i64 (fin : Int), .int .i64 (at_ : Int), .int .i64 0, .int .i64 0] 52)) ReadZ) NodeZ)
  have R40 := hid (heap_alloc_keep (heap_newAt (w.alloc (.cells #[.slice p n cap, .int .i64 (fin : Int), .int .i64 (at_ : Int), .int .i64 0, .int .i64 0] 52)) ReadZ (g := w.heap.size + 1) (by simp)) NodeZ)
  have R50 := hid (heap_newAt ((w.alloc (.cells #[.slice p n cap, .int .i64 (fin : Int), .int .i64 (at_ : Int), .int .i64 0, .int .i64 0] 52)).alloc ReadZ) NodeZ (g := w.heap.size + 1 + 1) (by simp))
  have FN := hid (RfailNew_c p n cap fin at_ 0 44 T _ (hT.grow G0.out) (by omega))
  unfold rdV at FN
  clear hT
  have hd2 : (32 : Int) < dp := by omega
  go_enter Tryd.func37, Tryd.ntmps37
  go_wp2_with fail
  refine FN.out.mono ?_
  rintro e w1 ⟨rfl, g1⟩
  generalize hH : w.heap.size = H at *
  have hws : w.heap.size ≤ H := Nat.le_of_eq hH
  replace hH := hid hH
  have hA1 : H < H + 1 := by omega
  have hB1 : H + 1 < H + 1 + 1 := by omega
  generalize H + 1 + 1 = RB at *
  generalize H + 1 = RA at *
  have nHA : H ≠ RA := by omega
  have nHB : H ≠ RB := by omega
  have nAB : RA ≠ RB := by omega
  have nAH : RA ≠ H := by omega
  have nBH : RB ≠ H := by omega
  have nBA : RB ≠ RA := by omega
  have RA1 := g1.heap R40.out
  have RB1 := g1.heap R50.out
  have E := hid (store10 (G0.out.trans g1) (r4 := RA) (r5 := RB) (by omega) (by omega) nAB RA1 RB1 (.slice p n cap) (.int .i64 (fin : Int)) (.int .i64 ((at_ : Nat) : Int)) (.int .i64 ((failE 44 (T.drop at_) : Nat) : Int)) (.int .i64 ((failAt fin (T.drop at_) : Nat) : Int)) (.int .i64 0) (.slice none 0 0) (.string ⟨#[]⟩) (.string ⟨#[]⟩) (.int .i64 0))
  have z0 : w1.cell? ⟨RA, 0, none⟩ = some (.slice none 0 0) := by rw [heap_cell RA1]; rfl
  have z1 : w1.cell? ⟨RA, 1, none⟩ = some (.int .i64 0) := by rw [heap_cell RA1]; rfl
  have z2 : w1.cell? ⟨RA, 2, none⟩ = some (.int .i64 0) := by rw [heap_cell RA1]; rfl
  have z3 : w1.cell? ⟨RA, 3, none⟩ = some (.int .i64 0) := by rw [heap_cell RA1]; rfl
  have z4 : w1.cell? ⟨RA, 4, none⟩ = some (.int .i64 0) := by rw [heap_cell RA1]; rfl
  have zf0 : w1.frozen? ⟨RA, 0, none⟩ = false := heap_frozen RA1 0 (by omega)
  have zf1 : w1.frozen? ⟨RA, 1, none⟩ = false := heap_frozen RA1 1 (by omega)
  have zf2 : w1.frozen? ⟨RA, 2, none⟩ = false := heap_frozen RA1 2 (by omega)
  have zf3 : w1.frozen? ⟨RA, 3, none⟩ = false := heap_frozen RA1 3 (by omega)
  have zf4 : w1.frozen? ⟨RA, 4, none⟩ = false := heap_frozen RA1 4 (by omega)
  have x0 : w1.cell? ⟨RB, 0, none⟩ = some (.int .i64 0) := by rw [heap_cell RB1]; rfl
  have x1 : w1.cell? ⟨RB, 1, none⟩ = some (.slice none 0 0) := by rw [heap_cell RB1]; rfl
  have x2 : w1.cell? ⟨RB, 2, none⟩ = some (.string ⟨#[]⟩) := by rw [heap_cell RB1]; rfl
  have x3 : w1.cell? ⟨RB, 3, none⟩ = some (.string ⟨#[]⟩) := by rw [heap_cell RB1]; rfl
  have x4 : w1.cell? ⟨RB, 4, none⟩ = some (.int .i64 0) := by rw [heap_cell RB1]; rfl
  have xf0 : w1.frozen? ⟨RB, 0, none⟩ = false := heap_frozen RB1 0 (by omega)
  have xf1 : w1.frozen? ⟨RB, 1, none⟩ = false := heap_frozen RB1 1 (by omega)
  have xf2 : w1.frozen? ⟨RB, 2, none⟩ = false := heap_frozen RB1 2 (by omega)
  have xf3 : w1.frozen? ⟨RB, 3, none⟩ = false := heap_frozen RB1 3 (by omega)
  have xf4 : w1.frozen? ⟨RB, 4, none⟩ = false := heap_frozen RB1 4 (by omega)
  clear RA1 RB1 g1 FN
  go_wp2_with fail
  (try simp only [Exit.inBlock, Exit.then])
  have E1 := E.out
  have hF := failE_ne 44 (T.drop at_) (by omega) (by omega)
  refine read_ret (nd := .zero) rfl rfl rfl E1.1 E1.2.1 E1.2.2 (NodeR.In.leaf _ _ 0 ⟨#[]⟩ ⟨#[]⟩ 0) (by omega) hF.2 ?_
  exact ⟨rfl, rfl, hF.1⟩
set_option maxRecDepth 100000 in
set_option maxHeartbeats 8000000 in
theorem RPartAll (p : Option Addr) (n cap fin at_ dp : Nat) (T : List Tok) (w : World) (hT : TokS w p n cap T) (hat : at_ ≤ T.length) (hd : dp ≤ 32) (t : Tok) (ht : nextK T at_ 0 = t) (hlt : at_ < T.length) (h1 : t.str.toList = [97, 108, 108]) :
    Calls Tryd.prog 37 #[rdV p n cap fin at_ 0 0, .int .i64 (dp : Int)] w (RPost T p n cap fin (.ok (.mk 6 [] ⟨#[]⟩ ⟨#[]⟩ 0) (T.drop (at_ + 1))) w) := by
  have HT := hid hT
  have hn4 : T.length ≤ 4096 := by rw [← hT.1]; exact hT.cells.1
  unfold rdV
  rw [show ((0 : Nat) : Int) = (0 : Int) from rfl]
  have hd1 : (dp : Int) ≤ 32 := by omega
  have G0 := hid (Grow.trans (Grow.trans (Grow.alloc w (.cells #[.slice p n cap, .int .i64 (fin : Int), .int .i64 (at_ : Int), .int .i64 0, .int .i64 0] 52)) (Grow.alloc _ ReadZ)) (Grow.alloc _ NodeZ))
  have B0 := hid (heap_alloc_keep (heap_alloc_keep (heap_new w (.cells #[.slice p n cap, .int .i64 (fin : Int), .int .i64 (at_ : Int), .int .i64 0, .int .i64 0] 52)) ReadZ) NodeZ)
  have R40 := hid (heap_alloc_keep (heap_newAt (w.alloc (.cells #[.slice p n cap, .int .i64 (fin : Int), .int .i64 (at_ : Int), .int .i64 0, .int .i64 0] 52)) ReadZ (g := w.heap.size + 1) (by simp)) NodeZ)
  have R50 := hid (heap_newAt ((w.alloc (.cells #[.slice p n cap, .int .i64 (fin : Int), .int .i64 (at_ : Int), .int .i64 0, .int .i64 0] 52)).alloc ReadZ) NodeZ (g := w.heap.size + 1 + 1) (by simp))
  have NX := hid (fun (w' : World) (g : Grow w w') => Rnext_c p n cap fin at_ 0 0 T w' (hT.grow g) (by omega) (by omega))
  unfold rdV at NX
  have hd2 : ¬(32 : Int) < dp := by omega
  rw [ht] at NX
  replace ht := hid ht
  clear hT
  go_enter Tryd.func37, Tryd.ntmps37
  go_wp2_with fail
  refine (NX.out _ G0.out).mono ?_
  rintro e w1 ⟨rfl, g1⟩
  unfold tokV
  generalize hH : w.heap.size = H at *
  have hws : w.heap.size ≤ H := Nat.le_of_eq hH
  replace hH := hid hH
  have hA1 : H < H + 1 := by omega
  have hB1 : H + 1 < H + 1 + 1 := by omega
  generalize H + 1 + 1 = RB at *
  generalize H + 1 = RA at *
  have nHA : H ≠ RA := by omega
  have nHB : H ≠ RB := by omega
  have nAB : RA ≠ RB := by omega
  have nAH : RA ≠ H := by omega
  have nBH : RB ≠ H := by omega
  have nBA : RB ≠ RA := by omega
  have G2 := hid ((G0.out.trans g1).trans (Grow.alloc w1 (.cells #[.int .i64 (t.kind : Int), .string t.str, .int .i64 t.num, .int .i64 (t.pos : Int)] 54)))
  have HB := hid (heap_alloc_keep (g1.heap B0.out) (.cells #[.int .i64 (t.kind : Int), .string t.str, .int .i64 t.num, .int .i64 (t.pos : Int)] 54))
  have RA2 := hid (heap_alloc_keep (g1.heap R40.out) (.cells #[.int .i64 (t.kind : Int), .string t.str, .int .i64 t.num, .int .i64 (t.pos : Int)] 54))
  have RB2 := hid (heap_alloc_keep (g1.heap R50.out) (.cells #[.int .i64 (t.kind : Int), .string t.str, .int .i64 t.num, .int .i64 (t.pos : Int)] 54))
  have TB := hid (heap_new w1 (.cells #[.int .i64 (t.kind : Int), .string t.str, .int .i64 t.num, .int .i64 (t.pos : Int)] 54))
  have hz1 := heap_lt (g1.heap R50.out)
  clear g1 G0 B0 R40 R50 NX
  go_upto_region 4 with fail
  generalize w1.alloc (.cells #[.int .i64 (t.kind : Int), .string t.str, .int .i64 t.num, .int .i64 (t.pos : Int)] 54) = w2 at *
  generalize w1.heap.size = tb at *
  have b0 : w2.cell? ⟨H, 0, none⟩ = some (.slice p n cap) := by rw [heap_cell HB.out]; rfl
  have b1 : w2.cell? ⟨H, 1, none⟩ = some (.int .i64 (fin : Int)) := by rw [heap_cell HB.out]; rfl
  have b2 : w2.cell? ⟨H, 2, none⟩ = some (.int .i64 (at_ : Int)) := by rw [heap_cell HB.out]; rfl
  have b3 : w2.cell? ⟨H, 3, none⟩ = some (.int .i64 0) := by rw [heap_cell HB.out]; rfl
  have b4 : w2.cell? ⟨H, 4, none⟩ = some (.int .i64 0) := by rw [heap_cell HB.out]; rfl
  have u0 : w2.cell? ⟨tb, 0, none⟩ = some (.int .i64 (t.kind : Int)) := by rw [heap_cell TB.out]; rfl
  have u1 : w2.cell? ⟨tb, 1, none⟩ = some (.string t.str) := by rw [heap_cell TB.out]; rfl
  have u2 : w2.cell? ⟨tb, 2, none⟩ = some (.int .i64 t.num) := by rw [heap_cell TB.out]; rfl
  have u3 : w2.cell? ⟨tb, 3, none⟩ = some (.int .i64 (t.pos : Int)) := by rw [heap_cell TB.out]; rfl
  have nTA : tb ≠ RA := by omega
  have nTB : tb ≠ RB := by omega
  have nAT : RA ≠ tb := by omega
  have nBT : RB ≠ tb := by omega
  have hzt := heap_lt TB.out
  have hzH := heap_lt HB.out
  have ON := hid (Ron_c p n cap fin at_ 0 0 w2 (by omega))
  unfold rdV at ON
  go_wp2_with fail
  refine ON.out.mono ?_
  rintro e w3 ⟨rfl, g3⟩
  have RA3 := g3.heap RA2.out
  have RB3 := g3.heap RB2.out
  have G3 := hid (G2.out.trans g3)
  have z0 : w3.cell? ⟨RA, 0, none⟩ = some (.slice none 0 0) := by rw [heap_cell RA3]; rfl
  have z1 : w3.cell? ⟨RA, 1, none⟩ = some (.int .i64 0) := by rw [heap_cell RA3]; rfl
  have z2 : w3.cell? ⟨RA, 2, none⟩ = some (.int .i64 0) := by rw [heap_cell RA3]; rfl
  have z3 : w3.cell? ⟨RA, 3, none⟩ = some (.int .i64 0) := by rw [heap_cell RA3]; rfl
  have z4 : w3.cell? ⟨RA, 4, none⟩ = some (.int .i64 0) := by rw [heap_cell RA3]; rfl
  have zf0 : w3.frozen? ⟨RA, 0, none⟩ = false := heap_frozen RA3 0 (by omega)
  have zf1 : w3.frozen? ⟨RA, 1, none⟩ = false := heap_frozen RA3 1 (by omega)
  have zf2 : w3.frozen? ⟨RA, 2, none⟩ = false := heap_frozen RA3 2 (by omega)
  have zf3 : w3.frozen? ⟨RA, 3, none⟩ = false := heap_frozen RA3 3 (by omega)
  have zf4 : w3.frozen? ⟨RA, 4, none⟩ = false := heap_frozen RA3 4 (by omega)
  have x0 : w3.cell? ⟨RB, 0, none⟩ = some (.int .i64 0) := by rw [heap_cell RB3]; rfl
  have x1 : w3.cell? ⟨RB, 1, none⟩ = some (.slice none 0 0) := by rw [heap_cell RB3]; rfl
  have x2 : w3.cell? ⟨RB, 2, none⟩ = some (.string ⟨#[]⟩) := by rw [heap_cell RB3]; rfl
  have x3 : w3.cell? ⟨RB, 3, none⟩ = some (.string ⟨#[]⟩) := by rw [heap_cell RB3]; rfl
  have x4 : w3.cell? ⟨RB, 4, none⟩ = some (.int .i64 0) := by rw [heap_cell RB3]; rfl
  have xf0 : w3.frozen? ⟨RB, 0, none⟩ = false := heap_frozen RB3 0 (by omega)
  have xf1 : w3.frozen? ⟨RB, 1, none⟩ = false := heap_frozen RB3 1 (by omega)
  have xf2 : w3.frozen? ⟨RB, 2, none⟩ = false := heap_frozen RB3 2 (by omega)
  have xf3 : w3.frozen? ⟨RB, 3, none⟩ = false := heap_frozen RB3 3 (by omega)
  have xf4 : w3.frozen? ⟨RB, 4, none⟩ = false := heap_frozen RB3 4 (by omega)
  have E := hid (store10 G3.out (r4 := RA) (r5 := RB) (by omega) (by omega) nAB RA3 RB3 (.slice p n cap) (.int .i64 (fin : Int)) (.int .i64 ((at_ : Int) + 1)) (.int .i64 0) (.int .i64 0) (.int .i64 6) (.slice none 0 0) (.string ⟨#[]⟩) (.string ⟨#[]⟩) (.int .i64 0))
  clear RA3 RB3 g3 ON
  go_wp2_with fail
  (try simp only [Exit.inBlock, Exit.then])
  have E1 := E.out
  refine read_ret (nd := .mk 6 [] ⟨#[]⟩ ⟨#[]⟩ 0) (at' := at_ + 1) (e' := 0) (pos' := 0) rfl rfl rfl (E1.1.trans (by push_cast; rfl)) E1.2.1 E1.2.2 (NodeR.In.leaf _ _ 6 ⟨#[]⟩ ⟨#[]⟩ 0) (by omega) (by omega) ?_
  exact ⟨rfl, rfl, rfl, rfl⟩
set_option maxRecDepth 100000 in
set_option maxHeartbeats 8000000 in
theorem RPartFail (p : Option Addr) (n cap fin at_ dp : Nat) (T : List Tok) (w : World) (hT : TokS w p n cap T) (hat : at_ ≤ T.length) (hd : dp ≤ 32) (t : Tok) (ht : nextK T at_ 0 = t) (hf : fieldB t.str = false) (h1 : ¬t.str.toList = [110, 111, 116]) (h2 : ¬t.str.toList = [97, 108, 108]) (h3 : ¬t.str.toList = [40]) (h4 : ¬t.str.toList = [111, 118, 101, 114, 108, 97, 112, 115]) (h5 : ¬t.str.toList = [98, 101, 102, 111, 114, 101]) (h6 : ¬t.str.toList = [97, 102, 116, 101, 114]) :
    Calls Tryd.prog 37 #[rdV p n cap fin at_ 0 0, .int .i64 (dp : Int)] w (RPost T p n cap fin (failP fin 41 (T.drop at_)) w) := by
  have HT := hid hT
  have hn4 : T.length ≤ 4096 := by rw [← hT.1]; exact hT.cells.1
  unfold rdV
  rw [show ((0 : Nat) : Int) = (0 : Int) from rfl]
  have hd1 : (dp : Int) ≤ 32 := by omega
  have G0 := hid (Grow.trans (Grow.trans (Grow.alloc w (.cells #[.slice p n cap, .int .i64 (fin : Int), .int .i64 (at_ : Int), .int .i64 0, .int .i64 0] 52)) (Grow.alloc _ ReadZ)) (Grow.alloc _ NodeZ))
  have B0 := hid (heap_alloc_keep (heap_alloc_keep (heap_new w (.cells #[.slice p n cap, .int .i64 (fin : Int), .int .i64 (at_ : Int), .int .i64 0, .int .i64 0] 52)) ReadZ) NodeZ)
  have R40 := hid (heap_alloc_keep (heap_newAt (w.alloc (.cells #[.slice p n cap, .int .i64 (fin : Int), .int .i64 (at_ : Int), .int .i64 0, .int .i64 0] 52)) ReadZ (g := w.heap.size + 1) (by simp)) NodeZ)
  have R50 := hid (heap_newAt ((w.alloc (.cells #[.slice p n cap, .int .i64 (fin : Int), .int .i64 (at_ : Int), .int .i64 0, .int .i64 0] 52)).alloc ReadZ) NodeZ (g := w.heap.size + 1 + 1) (by simp))
  have NX := hid (fun (w' : World) (g : Grow w w') => Rnext_c p n cap fin at_ 0 0 T w' (hT.grow g) (by omega) (by omega))
  unfold rdV at NX
  have hd2 : ¬(32 : Int) < dp := by omega
  rw [ht] at NX
  replace ht := hid ht
  clear hT
  have k1 : (t.str.toList == [110, 111, 116]) = false := by simpa using h1
  have k2 : (t.str.toList == [97, 108, 108]) = false := by simpa using h2
  have k3 : (t.str.toList == [40]) = false := by simpa using h3
  have k4 : (t.str.toList == [111, 118, 101, 114, 108, 97, 112, 115]) = false := by simpa using h4
  have k5 : (t.str.toList == [98, 101, 102, 111, 114, 101]) = false := by simpa using h5
  have k6 : (t.str.toList == [97, 102, 116, 101, 114]) = false := by simpa using h6
  go_enter Tryd.func37, Tryd.ntmps37
  go_wp2_with fail
  refine (NX.out _ G0.out).mono ?_
  rintro e w1 ⟨rfl, g1⟩
  unfold tokV
  generalize hH : w.heap.size = H at *
  have hws : w.heap.size ≤ H := Nat.le_of_eq hH
  replace hH := hid hH
  have hA1 : H < H + 1 := by omega
  have hB1 : H + 1 < H + 1 + 1 := by omega
  generalize H + 1 + 1 = RB at *
  generalize H + 1 = RA at *
  have nHA : H ≠ RA := by omega
  have nHB : H ≠ RB := by omega
  have nAB : RA ≠ RB := by omega
  have nAH : RA ≠ H := by omega
  have nBH : RB ≠ H := by omega
  have nBA : RB ≠ RA := by omega
  have G2 := hid ((G0.out.trans g1).trans (Grow.alloc w1 (.cells #[.int .i64 (t.kind : Int), .string t.str, .int .i64 t.num, .int .i64 (t.pos : Int)] 54)))
  have HB := hid (heap_alloc_keep (g1.heap B0.out) (.cells #[.int .i64 (t.kind : Int), .string t.str, .int .i64 t.num, .int .i64 (t.pos : Int)] 54))
  have RA2 := hid (heap_alloc_keep (g1.heap R40.out) (.cells #[.int .i64 (t.kind : Int), .string t.str, .int .i64 t.num, .int .i64 (t.pos : Int)] 54))
  have RB2 := hid (heap_alloc_keep (g1.heap R50.out) (.cells #[.int .i64 (t.kind : Int), .string t.str, .int .i64 t.num, .int .i64 (t.pos : Int)] 54))
  have TB := hid (heap_new w1 (.cells #[.int .i64 (t.kind : Int), .string t.str, .int .i64 t.num, .int .i64 (t.pos : Int)] 54))
  have hz1 := heap_lt (g1.heap R50.out)
  clear g1 G0 B0 R40 R50 NX
  go_upto_region 4 with fail
  generalize w1.alloc (.cells #[.int .i64 (t.kind : Int), .string t.str, .int .i64 t.num, .int .i64 (t.pos : Int)] 54) = w2 at *
  generalize w1.heap.size = tb at *
  have b0 : w2.cell? ⟨H, 0, none⟩ = some (.slice p n cap) := by rw [heap_cell HB.out]; rfl
  have b1 : w2.cell? ⟨H, 1, none⟩ = some (.int .i64 (fin : Int)) := by rw [heap_cell HB.out]; rfl
  have b2 : w2.cell? ⟨H, 2, none⟩ = some (.int .i64 (at_ : Int)) := by rw [heap_cell HB.out]; rfl
  have b3 : w2.cell? ⟨H, 3, none⟩ = some (.int .i64 0) := by rw [heap_cell HB.out]; rfl
  have b4 : w2.cell? ⟨H, 4, none⟩ = some (.int .i64 0) := by rw [heap_cell HB.out]; rfl
  have u0 : w2.cell? ⟨tb, 0, none⟩ = some (.int .i64 (t.kind : Int)) := by rw [heap_cell TB.out]; rfl
  have u1 : w2.cell? ⟨tb, 1, none⟩ = some (.string t.str) := by rw [heap_cell TB.out]; rfl
  have u2 : w2.cell? ⟨tb, 2, none⟩ = some (.int .i64 t.num) := by rw [heap_cell TB.out]; rfl
  have u3 : w2.cell? ⟨tb, 3, none⟩ = some (.int .i64 (t.pos : Int)) := by rw [heap_cell TB.out]; rfl
  have nTA : tb ≠ RA := by omega
  have nTB : tb ≠ RB := by omega
  have nAT : RA ≠ tb := by omega
  have nBT : RB ≠ tb := by omega
  have hzt := heap_lt TB.out
  have hzH := heap_lt HB.out
  have FL := hid (RField_c t.str w2)
  rw [hf] at FL
  go_wp2_with fail
  refine FL.out.mono ?_
  rintro e w3 ⟨rfl, g3⟩
  have HB3 := hid (g3.heap HB.out)
  have RA3 := hid (g3.heap RA2.out)
  have RB3 := hid (g3.heap RB2.out)
  have G3 := hid (G2.out.trans g3)
  have FN := hid (RfailNew_c p n cap fin at_ 0 41 T w3 (HT.out.grow G3.out) (by omega))
  unfold rdV at FN
  clear b0 b1 b2 b3 b4 g3 FL
  have b0 : w3.cell? ⟨H, 0, none⟩ = some (.slice p n cap) := by rw [heap_cell HB3.out]; rfl
  have b1 : w3.cell? ⟨H, 1, none⟩ = some (.int .i64 (fin : Int)) := by rw [heap_cell HB3.out]; rfl
  have b2 : w3.cell? ⟨H, 2, none⟩ = some (.int .i64 (at_ : Int)) := by rw [heap_cell HB3.out]; rfl
  have b3 : w3.cell? ⟨H, 3, none⟩ = some (.int .i64 0) := by rw [heap_cell HB3.out]; rfl
  have b4 : w3.cell? ⟨H, 4, none⟩ = some (.int .i64 0) := by rw [heap_cell HB3.out]; rfl
  go_wp2_with fail
  refine FN.out.mono ?_
  rintro e w4 ⟨rfl, g4⟩
  have RA4 := g4.heap RA3.out
  have RB4 := g4.heap RB3.out
  have E := hid (store10 (G3.out.trans g4) (r4 := RA) (r5 := RB) (by omega) (by omega) nAB RA4 RB4 (.slice p n cap) (.int .i64 (fin : Int)) (.int .i64 ((at_ : Nat) : Int)) (.int .i64 ((failE 41 (T.drop at_) : Nat) : Int)) (.int .i64 ((failAt fin (T.drop at_) : Nat) : Int)) (.int .i64 0) (.slice none 0 0) (.string ⟨#[]⟩) (.string ⟨#[]⟩) (.int .i64 0))
  have z0 : w4.cell? ⟨RA, 0, none⟩ = some (.slice none 0 0) := by rw [heap_cell RA4]; rfl
  have z1 : w4.cell? ⟨RA, 1, none⟩ = some (.int .i64 0) := by rw [heap_cell RA4]; rfl
  have z2 : w4.cell? ⟨RA, 2, none⟩ = some (.int .i64 0) := by rw [heap_cell RA4]; rfl
  have z3 : w4.cell? ⟨RA, 3, none⟩ = some (.int .i64 0) := by rw [heap_cell RA4]; rfl
  have z4 : w4.cell? ⟨RA, 4, none⟩ = some (.int .i64 0) := by rw [heap_cell RA4]; rfl
  have zf0 : w4.frozen? ⟨RA, 0, none⟩ = false := heap_frozen RA4 0 (by omega)
  have zf1 : w4.frozen? ⟨RA, 1, none⟩ = false := heap_frozen RA4 1 (by omega)
  have zf2 : w4.frozen? ⟨RA, 2, none⟩ = false := heap_frozen RA4 2 (by omega)
  have zf3 : w4.frozen? ⟨RA, 3, none⟩ = false := heap_frozen RA4 3 (by omega)
  have zf4 : w4.frozen? ⟨RA, 4, none⟩ = false := heap_frozen RA4 4 (by omega)
  have x0 : w4.cell? ⟨RB, 0, none⟩ = some (.int .i64 0) := by rw [heap_cell RB4]; rfl
  have x1 : w4.cell? ⟨RB, 1, none⟩ = some (.slice none 0 0) := by rw [heap_cell RB4]; rfl
  have x2 : w4.cell? ⟨RB, 2, none⟩ = some (.string ⟨#[]⟩) := by rw [heap_cell RB4]; rfl
  have x3 : w4.cell? ⟨RB, 3, none⟩ = some (.string ⟨#[]⟩) := by rw [heap_cell RB4]; rfl
  have x4 : w4.cell? ⟨RB, 4, none⟩ = some (.int .i64 0) := by rw [heap_cell RB4]; rfl
  have xf0 : w4.frozen? ⟨RB, 0, none⟩ = false := heap_frozen RB4 0 (by omega)
  have xf1 : w4.frozen? ⟨RB, 1, none⟩ = false := heap_frozen RB4 1 (by omega)
  have xf2 : w4.frozen? ⟨RB, 2, none⟩ = false := heap_frozen RB4 2 (by omega)
  have xf3 : w4.frozen? ⟨RB, 3, none⟩ = false := heap_frozen RB4 3 (by omega)
  have xf4 : w4.frozen? ⟨RB, 4, none⟩ = false := heap_frozen RB4 4 (by omega)
  clear RA4 RB4 g4 FN
  go_wp2_with fail
  (try simp only [Exit.inBlock, Exit.then])
  have E1 := E.out
  have hF := failE_ne 41 (T.drop at_) (by omega) (by omega)
  refine read_ret (nd := .zero) rfl rfl rfl E1.1 E1.2.1 E1.2.2 (NodeR.In.leaf _ _ 0 ⟨#[]⟩ ⟨#[]⟩ 0) (by omega) hF.2 ?_
  exact ⟨rfl, rfl, hF.1⟩
set_option maxRecDepth 100000 in
set_option maxHeartbeats 8000000 in
theorem RPartNot (p : Option Addr) (n cap fin at_ dp : Nat) (T : List Tok) (w : World) (hT : TokS w p n cap T) (hat : at_ ≤ T.length) (hd : dp ≤ 32) (t : Tok) (ht : nextK T at_ 0 = t) (d : Nat) (HI : PartOk T p n cap fin d (dp + 1)) (hlt : at_ < T.length) (h1 : t.str.toList = [110, 111, 116]) :
    Calls Tryd.prog 37 #[rdV p n cap fin at_ 0 0, .int .i64 (dp : Int)] w (RPost T p n cap fin (notR (partP fin d (T.drop (at_ + 1)))) w) := by
  have HT := hid hT
  have hn4 : T.length ≤ 4096 := by rw [← hT.1]; exact hT.cells.1
  unfold rdV
  rw [show ((0 : Nat) : Int) = (0 : Int) from rfl]
  have hd1 : (dp : Int) ≤ 32 := by omega
  have G0 := hid (Grow.trans (Grow.trans (Grow.alloc w (.cells #[.slice p n cap, .int .i64 (fin : Int), .int .i64 (at_ : Int), .int .i64 0, .int .i64 0] 52)) (Grow.alloc _ ReadZ)) (Grow.alloc _ NodeZ))
  have B0 := hid (heap_alloc_keep (heap_alloc_keep (heap_new w (.cells #[.slice p n cap, .int .i64 (fin : Int), .int .i64 (at_ : Int), .int .i64 0, .int .i64 0] 52)) ReadZ) NodeZ)
  have R40 := hid (heap_alloc_keep (heap_newAt (w.alloc (.cells #[.slice p n cap, .int .i64 (fin : Int), .int .i64 (at_ : Int), .int .i64 0, .int .i64 0] 52)) ReadZ (g := w.heap.size + 1) (by simp)) NodeZ)
  have R50 := hid (heap_newAt ((w.alloc (.cells #[.slice p n cap, .int .i64 (fin : Int), .int .i64 (at_ : Int), .int .i64 0, .int .i64 0] 52)).alloc ReadZ) NodeZ (g := w.heap.size + 1 + 1) (by simp))
  have NX := hid (fun (w' : World) (g : Grow w w') => Rnext_c p n cap fin at_ 0 0 T w' (hT.grow g) (by omega) (by omega))
  unfold rdV at NX
  have hd2 : ¬(32 : Int) < dp := by omega
  rw [ht] at NX
  replace ht := hid ht
  clear hT
  have HI0 := hid HI
  clear HI
  generalize hpr : partP fin d (T.drop (at_ + 1)) = pr
  generalize hres : notR pr = res
  replace hpr := hid hpr
  replace hres := hid hres
  go_enter Tryd.func37, Tryd.ntmps37
  go_wp2_with fail
  refine (NX.out _ G0.out).mono ?_
  rintro e w1 ⟨rfl, g1⟩
  unfold tokV
  generalize hH : w.heap.size = H at *
  have hws : w.heap.size ≤ H := Nat.le_of_eq hH
  replace hH := hid hH
  have hA1 : H < H + 1 := by omega
  have hB1 : H + 1 < H + 1 + 1 := by omega
  generalize H + 1 + 1 = RB at *
  generalize H + 1 = RA at *
  have nHA : H ≠ RA := by omega
  have nHB : H ≠ RB := by omega
  have nAB : RA ≠ RB := by omega
  have nAH : RA ≠ H := by omega
  have nBH : RB ≠ H := by omega
  have nBA : RB ≠ RA := by omega
  have G2 := hid ((G0.out.trans g1).trans (Grow.alloc w1 (.cells #[.int .i64 (t.kind : Int), .string t.str, .int .i64 t.num, .int .i64 (t.pos : Int)] 54)))
  have HB := hid (heap_alloc_keep (g1.heap B0.out) (.cells #[.int .i64 (t.kind : Int), .string t.str, .int .i64 t.num, .int .i64 (t.pos : Int)] 54))
  have RA2 := hid (heap_alloc_keep (g1.heap R40.out) (.cells #[.int .i64 (t.kind : Int), .string t.str, .int .i64 t.num, .int .i64 (t.pos : Int)] 54))
  have RB2 := hid (heap_alloc_keep (g1.heap R50.out) (.cells #[.int .i64 (t.kind : Int), .string t.str, .int .i64 t.num, .int .i64 (t.pos : Int)] 54))
  have TB := hid (heap_new w1 (.cells #[.int .i64 (t.kind : Int), .string t.str, .int .i64 t.num, .int .i64 (t.pos : Int)] 54))
  have hz1 := heap_lt (g1.heap R50.out)
  clear g1 G0 B0 R40 R50 NX
  go_upto_region 4 with fail
  generalize w1.alloc (.cells #[.int .i64 (t.kind : Int), .string t.str, .int .i64 t.num, .int .i64 (t.pos : Int)] 54) = w2 at *
  generalize w1.heap.size = tb at *
  have b0 : w2.cell? ⟨H, 0, none⟩ = some (.slice p n cap) := by rw [heap_cell HB.out]; rfl
  have b1 : w2.cell? ⟨H, 1, none⟩ = some (.int .i64 (fin : Int)) := by rw [heap_cell HB.out]; rfl
  have b2 : w2.cell? ⟨H, 2, none⟩ = some (.int .i64 (at_ : Int)) := by rw [heap_cell HB.out]; rfl
  have b3 : w2.cell? ⟨H, 3, none⟩ = some (.int .i64 0) := by rw [heap_cell HB.out]; rfl
  have b4 : w2.cell? ⟨H, 4, none⟩ = some (.int .i64 0) := by rw [heap_cell HB.out]; rfl
  have u0 : w2.cell? ⟨tb, 0, none⟩ = some (.int .i64 (t.kind : Int)) := by rw [heap_cell TB.out]; rfl
  have u1 : w2.cell? ⟨tb, 1, none⟩ = some (.string t.str) := by rw [heap_cell TB.out]; rfl
  have u2 : w2.cell? ⟨tb, 2, none⟩ = some (.int .i64 t.num) := by rw [heap_cell TB.out]; rfl
  have u3 : w2.cell? ⟨tb, 3, none⟩ = some (.int .i64 (t.pos : Int)) := by rw [heap_cell TB.out]; rfl
  have nTA : tb ≠ RA := by omega
  have nTB : tb ≠ RB := by omega
  have nAT : RA ≠ tb := by omega
  have nBT : RB ≠ tb := by omega
  have hzt := heap_lt TB.out
  have hzH := heap_lt HB.out
  have ON := hid (Ron_c p n cap fin at_ 0 0 w2 (by omega))
  unfold rdV at ON
  go_wp2_with fail
  refine ON.out.mono ?_
  rintro e w3 ⟨rfl, g3⟩
  have INN := HI0.out (at_ + 1) w3 (HT.out.grow (G2.out.trans g3)) (by omega)
  unfold rdV at INN
  rw [hpr.out] at INN
  replace INN := hid INN
  go_wp2_with fail
  refine INN.out.mono ?_
  rintro e w4 ⟨at', e', pos', nd, v3, rfl, hin, g4, hat', he', hm⟩
  obtain ⟨mk, mp, ml, mc, mf, ms, mx, rfl⟩ := NodeR.In.value hin
  have hm := hid hm
  have g24 := g3.trans g4
  have G4 := hid (((G2.out.trans g24).trans (Grow.alloc w4 (.cells #[.slice p n cap, .int .i64 (fin : Int), .int .i64 (at' : Int), .int .i64 (e' : Int), .int .i64 (pos' : Int)] 52))).trans (Grow.alloc _ (.cells #[.int .i64 mk, .slice mp ml mc, .string mf, .string ms, .int .i64 mx] 24)))
  have RA4 := hid (heap_alloc_keep (heap_alloc_keep (g24.heap RA2.out) (.cells #[.slice p n cap, .int .i64 (fin : Int), .int .i64 (at' : Int), .int .i64 (e' : Int), .int .i64 (pos' : Int)] 52)) (.cells #[.int .i64 mk, .slice mp ml mc, .string mf, .string ms, .int .i64 mx] 24))
  have RB4 := hid (heap_alloc_keep (heap_alloc_keep (g24.heap RB2.out) (.cells #[.slice p n cap, .int .i64 (fin : Int), .int .i64 (at' : Int), .int .i64 (e' : Int), .int .i64 (pos' : Int)] 52)) (.cells #[.int .i64 mk, .slice mp ml mc, .string mf, .string ms, .int .i64 mx] 24))
  have X1 := hid (heap_alloc_keep (heap_new w4 (.cells #[.slice p n cap, .int .i64 (fin : Int), .int .i64 (at' : Int), .int .i64 (e' : Int), .int .i64 (pos' : Int)] 52)) (.cells #[.int .i64 mk, .slice mp ml mc, .string mf, .string ms, .int .i64 mx] 24))
  have X2 := hid (heap_newAt (w4.alloc (.cells #[.slice p n cap, .int .i64 (fin : Int), .int .i64 (at' : Int), .int .i64 (e' : Int), .int .i64 (pos' : Int)] 52)) (.cells #[.int .i64 mk, .slice mp ml mc, .string mf, .string ms, .int .i64 mx] 24) (g := w4.heap.size + 1) (by simp))
  have V4 := hid (NodeR.In.grow ((Grow.alloc w4 (.cells #[.slice p n cap, .int .i64 (fin : Int), .int .i64 (at' : Int), .int .i64 (e' : Int), .int .i64 (pos' : Int)] 52)).trans (Grow.alloc _ (.cells #[.int .i64 mk, .slice mp ml mc, .string mf, .string ms, .int .i64 mx] 24))) hin)
  have hs4 : w3.heap.size ≤ w4.heap.size := g4.size
  have hs3 := g3.size
  clear b0 b1 b2 b3 b4 u0 u1 u2 u3 hin g3 g4 g24 INN ON
  unfold rdV
  go_upto_region 6 with fail
  generalize (w4.alloc (.cells #[.slice p n cap, .int .i64 (fin : Int), .int .i64 (at' : Int), .int .i64 (e' : Int), .int .i64 (pos' : Int)] 52)).alloc (.cells #[.int .i64 mk, .slice mp ml mc, .string mf, .string ms, .int .i64 mx] 24) = w5 at *
  have hY : w4.heap.size ≠ w4.heap.size + 1 := by omega
  have hY2 : w4.heap.size + 1 = w4.heap.size + 1 := rfl
  generalize hy2 : w4.heap.size + 1 = y2 at *
  generalize w4.heap.size = y1 at *
  clear hY2
  have hy3 : RB < y1 := by omega
  have hy4 : y1 < y2 := by omega
  replace hy2 := hid hy2
  have b0 : w5.cell? ⟨y1, 0, none⟩ = some (.slice p n cap) := by rw [heap_cell X1.out]; rfl
  have b1 : w5.cell? ⟨y1, 1, none⟩ = some (.int .i64 (fin : Int)) := by rw [heap_cell X1.out]; rfl
  have b2 : w5.cell? ⟨y1, 2, none⟩ = some (.int .i64 (at' : Int)) := by rw [heap_cell X1.out]; rfl
  have b3 : w5.cell? ⟨y1, 3, none⟩ = some (.int .i64 (e' : Int)) := by rw [heap_cell X1.out]; rfl
  have b4 : w5.cell? ⟨y1, 4, none⟩ = some (.int .i64 (pos' : Int)) := by rw [heap_cell X1.out]; rfl
  have k0 : w5.cell? ⟨y2, 0, none⟩ = some (.int .i64 mk) := by rw [heap_cell X2.out]; rfl
  have k1 : w5.cell? ⟨y2, 1, none⟩ = some (.slice mp ml mc) := by rw [heap_cell X2.out]; rfl
  have k2 : w5.cell? ⟨y2, 2, none⟩ = some (.string mf) := by rw [heap_cell X2.out]; rfl
  have k3 : w5.cell? ⟨y2, 3, none⟩ = some (.string ms) := by rw [heap_cell X2.out]; rfl
  have k4 : w5.cell? ⟨y2, 4, none⟩ = some (.int .i64 mx) := by rw [heap_cell X2.out]; rfl
  have z0 : w5.cell? ⟨RA, 0, none⟩ = some (.slice none 0 0) := by rw [heap_cell RA4.out]; rfl
  have z1 : w5.cell? ⟨RA, 1, none⟩ = some (.int .i64 0) := by rw [heap_cell RA4.out]; rfl
  have z2 : w5.cell? ⟨RA, 2, none⟩ = some (.int .i64 0) := by rw [heap_cell RA4.out]; rfl
  have z3 : w5.cell? ⟨RA, 3, none⟩ = some (.int .i64 0) := by rw [heap_cell RA4.out]; rfl
  have z4 : w5.cell? ⟨RA, 4, none⟩ = some (.int .i64 0) := by rw [heap_cell RA4.out]; rfl
  have zf0 : w5.frozen? ⟨RA, 0, none⟩ = false := heap_frozen RA4.out 0 (by omega)
  have zf1 : w5.frozen? ⟨RA, 1, none⟩ = false := heap_frozen RA4.out 1 (by omega)
  have zf2 : w5.frozen? ⟨RA, 2, none⟩ = false := heap_frozen RA4.out 2 (by omega)
  have zf3 : w5.frozen? ⟨RA, 3, none⟩ = false := heap_frozen RA4.out 3 (by omega)
  have zf4 : w5.frozen? ⟨RA, 4, none⟩ = false := heap_frozen RA4.out 4 (by omega)
  have x0 : w5.cell? ⟨RB, 0, none⟩ = some (.int .i64 0) := by rw [heap_cell RB4.out]; rfl
  have x1 : w5.cell? ⟨RB, 1, none⟩ = some (.slice none 0 0) := by rw [heap_cell RB4.out]; rfl
  have x2 : w5.cell? ⟨RB, 2, none⟩ = some (.string ⟨#[]⟩) := by rw [heap_cell RB4.out]; rfl
  have x3 : w5.cell? ⟨RB, 3, none⟩ = some (.string ⟨#[]⟩) := by rw [heap_cell RB4.out]; rfl
  have x4 : w5.cell? ⟨RB, 4, none⟩ = some (.int .i64 0) := by rw [heap_cell RB4.out]; rfl
  have xf0 : w5.frozen? ⟨RB, 0, none⟩ = false := heap_frozen RB4.out 0 (by omega)
  have xf1 : w5.frozen? ⟨RB, 1, none⟩ = false := heap_frozen RB4.out 1 (by omega)
  have xf2 : w5.frozen? ⟨RB, 2, none⟩ = false := heap_frozen RB4.out 2 (by omega)
  have xf3 : w5.frozen? ⟨RB, 3, none⟩ = false := heap_frozen RB4.out 3 (by omega)
  have xf4 : w5.frozen? ⟨RB, 4, none⟩ = false := heap_frozen RB4.out 4 (by omega)
  have hzA := heap_lt RA4.out
  have hzB := heap_lt RB4.out
  have hz5 := heap_lt X1.out
  have hz6 := heap_lt X2.out
  have n1A : y1 ≠ RA := by omega
  have n1B : y1 ≠ RB := by omega
  have n2A : y2 ≠ RA := by omega
  have n2B : y2 ≠ RB := by omega
  have nA1 : RA ≠ y1 := by omega
  have nB1 : RB ≠ y1 := by omega
  have nA2 : RA ≠ y2 := by omega
  have nB2 : RB ≠ y2 := by omega
  have hzw := hid (show w.heap.size ≤ w3.heap.size from by have := G2.out.size; omega)
  have hzr := hid (show RB < w3.heap.size from by have := heap_lt RB2.out; omega)
  have hzx := hid (show w3.heap.size ≤ w5.heap.size from by omega)
  have E := hid (store10 G4.out (r4 := RA) (r5 := RB) (by omega) (by omega) nAB RA4.out RB4.out (.slice p n cap) (.int .i64 (fin : Int)) (.int .i64 (at' : Int)) (.int .i64 (e' : Int)) (.int .i64 (pos' : Int)) (.int .i64 3) (.slice (some ⟨w5.heap.size, 0, none⟩) 1 1) (.string ⟨#[]⟩) (.string ⟨#[]⟩) (.int .i64 0))
  have Y := hid (by10 w5 RA RB (.slice p n cap) (.int .i64 (fin : Int)) (.int .i64 (at' : Int)) (.int .i64 (e' : Int)) (.int .i64 (pos' : Int)) (.int .i64 3) (.slice (some ⟨w5.heap.size, 0, none⟩) 1 1) (.string ⟨#[]⟩) (.string ⟨#[]⟩) (.int .i64 0))
  clear hs3 hs4
  go_region
  go_wp2_with fail
  (try simp only [Exit.inBlock, Exit.then])
  have E1 := E.out
  have Y1 := Y.out
  have hin5 := NodeR.In.weaken (S' := fun b => w.heap.size ≤ b) (fun b _ hS => by have h : w3.heap.size ≤ b := hS; have := hzw.out; show w.heap.size ≤ b; omega) (in10 Y1.1 Y1.2 (fun x hx hS => ⟨by have h : w3.heap.size ≤ x := hS; have := hzr.out; omega, by have h : w3.heap.size ≤ x := hS; have := hzr.out; omega⟩) V4.out)
  have gA := Grow.alloc ((((((((((w5.setCell ⟨RA, 0, none⟩ (.slice p n cap)).setCell ⟨RA, 1, none⟩ (.int .i64 (fin : Int))).setCell ⟨RA, 2, none⟩ (.int .i64 (at' : Int))).setCell ⟨RA, 3, none⟩ (.int .i64 (e' : Int))).setCell ⟨RA, 4, none⟩ (.int .i64 (pos' : Int))).setCell ⟨RB, 0, none⟩ (.int .i64 3)).setCell ⟨RB, 1, none⟩ (.slice (some ⟨w5.heap.size, 0, none⟩) 1 1)).setCell ⟨RB, 2, none⟩ (.string ⟨#[]⟩)).setCell ⟨RB, 3, none⟩ (.string ⟨#[]⟩)).setCell ⟨RB, 4, none⟩ (.int .i64 0)) (.cells #[.int .i64 mk, .slice mp ml mc, .string mf, .string ms, .int .i64 mx] 24)
  have hin6 := one_kid (S := fun b => w.heap.size ≤ b) (b := w5.heap.size) (by have := hzw.out; have := hzx.out; show w.heap.size ≤ w5.heap.size; omega) (heap_newAt ((((((((((w5.setCell ⟨RA, 0, none⟩ (.slice p n cap)).setCell ⟨RA, 1, none⟩ (.int .i64 (fin : Int))).setCell ⟨RA, 2, none⟩ (.int .i64 (at' : Int))).setCell ⟨RA, 3, none⟩ (.int .i64 (e' : Int))).setCell ⟨RA, 4, none⟩ (.int .i64 (pos' : Int))).setCell ⟨RB, 0, none⟩ (.int .i64 3)).setCell ⟨RB, 1, none⟩ (.slice (some ⟨w5.heap.size, 0, none⟩) 1 1)).setCell ⟨RB, 2, none⟩ (.string ⟨#[]⟩)).setCell ⟨RB, 3, none⟩ (.string ⟨#[]⟩)).setCell ⟨RB, 4, none⟩ (.int .i64 0)) (.cells #[.int .i64 mk, .slice mp ml mc, .string mf, .string ms, .int .i64 mx] 24) (g := w5.heap.size) (by simp)) (NodeR.In.grow gA hin5) 3 ⟨#[]⟩ ⟨#[]⟩ 0
  have h2 := hm.out
  have h3 := hres.out
  refine read_ret (nd := .mk 3 [nd] ⟨#[]⟩ ⟨#[]⟩ 0) (at' := at') (e' := e') (pos' := pos') rfl rfl rfl ((Grow.drew _).heap (gA.heap E1.1)) ((Grow.drew _).heap (gA.heap E1.2.1)) (Grow.drewR (E1.2.2.trans gA)) (NodeR.In.grow (Grow.drew _) hin6) hat' he' ?_
  subst h3
  cases pr with
  | bad k q => exact h2
  | ok x R =>
    obtain ⟨rfl, h4⟩ := h2
    exact ⟨rfl, h4⟩
set_option maxRecDepth 100000 in
set_option maxHeartbeats 8000000 in
theorem RPartOpen (p : Option Addr) (n cap fin at_ dp : Nat) (T : List Tok) (w : World) (hT : TokS w p n cap T) (hat : at_ ≤ T.length) (hd : dp ≤ 32) (t : Tok) (ht : nextK T at_ 0 = t) (d : Nat) (HI : ListOk T p n cap fin d dp) (hlt : at_ < T.length) (h1 : t.str.toList = [40]) :
    Calls Tryd.prog 37 #[rdV p n cap fin at_ 0 0, .int .i64 (dp : Int)] w (RPost T p n cap fin (openR fin (orP fin d (T.drop (at_ + 1)))) w) := by
  have HT := hid hT
  have hn4 : T.length ≤ 4096 := by rw [← hT.1]; exact hT.cells.1
  unfold rdV
  rw [show ((0 : Nat) : Int) = (0 : Int) from rfl]
  have hd1 : (dp : Int) ≤ 32 := by omega
  have G0 := hid (Grow.trans (Grow.trans (Grow.alloc w (.cells #[.slice p n cap, .int .i64 (fin : Int), .int .i64 (at_ : Int), .int .i64 0, .int .i64 0] 52)) (Grow.alloc _ ReadZ)) (Grow.alloc _ NodeZ))
  have B0 := hid (heap_alloc_keep (heap_alloc_keep (heap_new w (.cells #[.slice p n cap, .int .i64 (fin : Int), .int .i64 (at_ : Int), .int .i64 0, .int .i64 0] 52)) ReadZ) NodeZ)
  have R40 := hid (heap_alloc_keep (heap_newAt (w.alloc (.cells #[.slice p n cap, .int .i64 (fin : Int), .int .i64 (at_ : Int), .int .i64 0, .int .i64 0] 52)) ReadZ (g := w.heap.size + 1) (by simp)) NodeZ)
  have R50 := hid (heap_newAt ((w.alloc (.cells #[.slice p n cap, .int .i64 (fin : Int), .int .i64 (at_ : Int), .int .i64 0, .int .i64 0] 52)).alloc ReadZ) NodeZ (g := w.heap.size + 1 + 1) (by simp))
  have NX := hid (fun (w' : World) (g : Grow w w') => Rnext_c p n cap fin at_ 0 0 T w' (hT.grow g) (by omega) (by omega))
  unfold rdV at NX
  have hd2 : ¬(32 : Int) < dp := by omega
  rw [ht] at NX
  replace ht := hid ht
  clear hT
  have HI0 := hid HI
  clear HI
  generalize hpr : orP fin d (T.drop (at_ + 1)) = pr
  generalize hres : openR fin pr = res
  replace hpr := hid hpr
  replace hres := hid hres
  go_enter Tryd.func37, Tryd.ntmps37
  go_wp2_with fail
  refine (NX.out _ G0.out).mono ?_
  rintro e w1 ⟨rfl, g1⟩
  unfold tokV
  generalize hH : w.heap.size = H at *
  have hws : w.heap.size ≤ H := Nat.le_of_eq hH
  replace hH := hid hH
  have hA1 : H < H + 1 := by omega
  have hB1 : H + 1 < H + 1 + 1 := by omega
  generalize H + 1 + 1 = RB at *
  generalize H + 1 = RA at *
  have nHA : H ≠ RA := by omega
  have nHB : H ≠ RB := by omega
  have nAB : RA ≠ RB := by omega
  have nAH : RA ≠ H := by omega
  have nBH : RB ≠ H := by omega
  have nBA : RB ≠ RA := by omega
  have G2 := hid ((G0.out.trans g1).trans (Grow.alloc w1 (.cells #[.int .i64 (t.kind : Int), .string t.str, .int .i64 t.num, .int .i64 (t.pos : Int)] 54)))
  have HB := hid (heap_alloc_keep (g1.heap B0.out) (.cells #[.int .i64 (t.kind : Int), .string t.str, .int .i64 t.num, .int .i64 (t.pos : Int)] 54))
  have RA2 := hid (heap_alloc_keep (g1.heap R40.out) (.cells #[.int .i64 (t.kind : Int), .string t.str, .int .i64 t.num, .int .i64 (t.pos : Int)] 54))
  have RB2 := hid (heap_alloc_keep (g1.heap R50.out) (.cells #[.int .i64 (t.kind : Int), .string t.str, .int .i64 t.num, .int .i64 (t.pos : Int)] 54))
  have TB := hid (heap_new w1 (.cells #[.int .i64 (t.kind : Int), .string t.str, .int .i64 t.num, .int .i64 (t.pos : Int)] 54))
  have hz1 := heap_lt (g1.heap R50.out)
  clear g1 G0 B0 R40 R50 NX
  go_upto_region 4 with fail
  generalize w1.alloc (.cells #[.int .i64 (t.kind : Int), .string t.str, .int .i64 t.num, .int .i64 (t.pos : Int)] 54) = w2 at *
  generalize w1.heap.size = tb at *
  have b0 : w2.cell? ⟨H, 0, none⟩ = some (.slice p n cap) := by rw [heap_cell HB.out]; rfl
  have b1 : w2.cell? ⟨H, 1, none⟩ = some (.int .i64 (fin : Int)) := by rw [heap_cell HB.out]; rfl
  have b2 : w2.cell? ⟨H, 2, none⟩ = some (.int .i64 (at_ : Int)) := by rw [heap_cell HB.out]; rfl
  have b3 : w2.cell? ⟨H, 3, none⟩ = some (.int .i64 0) := by rw [heap_cell HB.out]; rfl
  have b4 : w2.cell? ⟨H, 4, none⟩ = some (.int .i64 0) := by rw [heap_cell HB.out]; rfl
  have u0 : w2.cell? ⟨tb, 0, none⟩ = some (.int .i64 (t.kind : Int)) := by rw [heap_cell TB.out]; rfl
  have u1 : w2.cell? ⟨tb, 1, none⟩ = some (.string t.str) := by rw [heap_cell TB.out]; rfl
  have u2 : w2.cell? ⟨tb, 2, none⟩ = some (.int .i64 t.num) := by rw [heap_cell TB.out]; rfl
  have u3 : w2.cell? ⟨tb, 3, none⟩ = some (.int .i64 (t.pos : Int)) := by rw [heap_cell TB.out]; rfl
  have nTA : tb ≠ RA := by omega
  have nTB : tb ≠ RB := by omega
  have nAT : RA ≠ tb := by omega
  have nBT : RB ≠ tb := by omega
  have hzt := heap_lt TB.out
  have hzH := heap_lt HB.out
  have ON := hid (Ron_c p n cap fin at_ 0 0 w2 (by omega))
  unfold rdV at ON
  go_wp2_with fail
  refine ON.out.mono ?_
  rintro e w3 ⟨rfl, g3⟩
  have INN := HI0.out (at_ + 1) w3 (HT.out.grow (G2.out.trans g3)) (by omega)
  unfold rdV at INN
  rw [hpr.out] at INN
  replace INN := hid INN
  go_wp2_with fail
  refine INN.out.mono ?_
  rintro e w4 ⟨at', e', pos', nd, v3, rfl, hin, g4, hat', he', hm⟩
  obtain ⟨mk, mp, ml, mc, mf, ms, mx, rfl⟩ := NodeR.In.value hin
  have hcase := hid (open_cases (fin := fin) hat' hm hres.out)
  have g24 := g3.trans g4
  have G4 := hid (((G2.out.trans g24).trans (Grow.alloc w4 (.cells #[.slice p n cap, .int .i64 (fin : Int), .int .i64 (at' : Int), .int .i64 (e' : Int), .int .i64 (pos' : Int)] 52))).trans (Grow.alloc _ (.cells #[.int .i64 mk, .slice mp ml mc, .string mf, .string ms, .int .i64 mx] 24)))
  have RA4 := hid (heap_alloc_keep (heap_alloc_keep (g24.heap RA2.out) (.cells #[.slice p n cap, .int .i64 (fin : Int), .int .i64 (at' : Int), .int .i64 (e' : Int), .int .i64 (pos' : Int)] 52)) (.cells #[.int .i64 mk, .slice mp ml mc, .string mf, .string ms, .int .i64 mx] 24))
  have RB4 := hid (heap_alloc_keep (heap_alloc_keep (g24.heap RB2.out) (.cells #[.slice p n cap, .int .i64 (fin : Int), .int .i64 (at' : Int), .int .i64 (e' : Int), .int .i64 (pos' : Int)] 52)) (.cells #[.int .i64 mk, .slice mp ml mc, .string mf, .string ms, .int .i64 mx] 24))
  have X1 := hid (heap_alloc_keep (heap_new w4 (.cells #[.slice p n cap, .int .i64 (fin : Int), .int .i64 (at' : Int), .int .i64 (e' : Int), .int .i64 (pos' : Int)] 52)) (.cells #[.int .i64 mk, .slice mp ml mc, .string mf, .string ms, .int .i64 mx] 24))
  have X2 := hid (heap_newAt (w4.alloc (.cells #[.slice p n cap, .int .i64 (fin : Int), .int .i64 (at' : Int), .int .i64 (e' : Int), .int .i64 (pos' : Int)] 52)) (.cells #[.int .i64 mk, .slice mp ml mc, .string mf, .string ms, .int .i64 mx] 24) (g := w4.heap.size + 1) (by simp))
  have V4 := hid (NodeR.In.grow ((Grow.alloc w4 (.cells #[.slice p n cap, .int .i64 (fin : Int), .int .i64 (at' : Int), .int .i64 (e' : Int), .int .i64 (pos' : Int)] 52)).trans (Grow.alloc _ (.cells #[.int .i64 mk, .slice mp ml mc, .string mf, .string ms, .int .i64 mx] 24))) hin)
  have hs4 : w3.heap.size ≤ w4.heap.size := g4.size
  have hs3 := g3.size
  have hzw := hid (show w.heap.size ≤ w3.heap.size from by have := G2.out.size; omega)
  have hzr := hid (show RB < w3.heap.size from by have := heap_lt RB2.out; omega)
  clear b0 b1 b2 b3 b4 u0 u1 u2 u3 hin g3 g4 g24 INN ON hm
  unfold rdV
  go_upto_region 11 with fail
  generalize (w4.alloc (.cells #[.slice p n cap, .int .i64 (fin : Int), .int .i64 (at' : Int), .int .i64 (e' : Int), .int .i64 (pos' : Int)] 52)).alloc (.cells #[.int .i64 mk, .slice mp ml mc, .string mf, .string ms, .int .i64 mx] 24) = w5 at *
  generalize hy2 : w4.heap.size + 1 = y2 at *
  generalize w4.heap.size = y1 at *
  have hy3 : RB < y1 := by omega
  have hy4 : y1 < y2 := by omega
  replace hy2 := hid hy2
  have n1A : y1 ≠ RA := by omega
  have n1B : y1 ≠ RB := by omega
  have n2A : y2 ≠ RA := by omega
  have n2B : y2 ≠ RB := by omega
  have nA1 : RA ≠ y1 := by omega
  have nB1 : RB ≠ y1 := by omega
  have nA2 : RA ≠ y2 := by omega
  have nB2 : RB ≠ y2 := by omega
  clear hs3 hs4
  have b0 : w5.cell? ⟨y1, 0, none⟩ = some (.slice p n cap) := by rw [heap_cell X1.out]; rfl
  have b1 : w5.cell? ⟨y1, 1, none⟩ = some (.int .i64 (fin : Int)) := by rw [heap_cell X1.out]; rfl
  have b2 : w5.cell? ⟨y1, 2, none⟩ = some (.int .i64 (at' : Int)) := by rw [heap_cell X1.out]; rfl
  have b3 : w5.cell? ⟨y1, 3, none⟩ = some (.int .i64 (e' : Int)) := by rw [heap_cell X1.out]; rfl
  have b4 : w5.cell? ⟨y1, 4, none⟩ = some (.int .i64 (pos' : Int)) := by rw [heap_cell X1.out]; rfl
  have hz5 := heap_lt X1.out
  have NXT := hid (Rnext_c p n cap fin at' e' pos' T w5 (HT.out.grow G4.out) (by omega) (by omega))
  unfold rdV at NXT
  go_wp2_with fail
  refine NXT.out.mono ?_
  rintro e w6 ⟨rfl, g6⟩
  unfold tokV
  have X16 := hid (g6.heap X1.out)
  have X26 := hid (g6.heap X2.out)
  have RA6 := hid (g6.heap RA4.out)
  have RB6 := hid (g6.heap RB4.out)
  have G6 := hid (G4.out.trans g6)
  have V6 := hid (NodeR.In.grow g6 V4.out)
  have hzA := heap_lt RA6.out
  have hzB := heap_lt RB6.out
  have hz1' := heap_lt X16.out
  have hz2' := heap_lt X26.out
  generalize nextK T at' e' = nx at *
  have FT := run_rtok1 (.int .i64 (nx.kind : Int)) (.string nx.str) (.int .i64 nx.num) (.int .i64 (nx.pos : Int))
  clear b0 b1 b2 b3 b4 X1 X2 RA4 RB4 G4 V4 g6 NXT hz5
  rcases hcase.out with ⟨c1, rfl, rfl, c4, c5⟩ | ⟨c1, rfl, rfl, c5⟩ | ⟨c1, c4, c5⟩
  · have hstr : nx.str.toList = [41] := (congrArg ByteArray.toList c1).trans (by kernel_rfl)
    have ON2 := hid (fun (w' : World) => Ron_c p n cap fin at' 0 0 w' (by omega))
    unfold rdV at ON2
    replace c5 := hid c5
    clear c1 hcase
    go_wp2_with fail
    have hc10 : w6.cell? ⟨y1, 0, none⟩ = some (.slice p n cap) ∧ w6.cell? ⟨y1, 1, none⟩ = some (.int .i64 (fin : Int)) ∧ w6.cell? ⟨y1, 2, none⟩ = some (.int .i64 (at' : Int)) ∧ w6.cell? ⟨y1, 3, none⟩ = some (.int .i64 0) ∧ w6.cell? ⟨y1, 4, none⟩ = some (.int .i64 0) ∧ w6.cell? ⟨y2, 0, none⟩ = some (.int .i64 mk) ∧ w6.cell? ⟨y2, 1, none⟩ = some (.slice mp ml mc) ∧ w6.cell? ⟨y2, 2, none⟩ = some (.string mf) ∧ w6.cell? ⟨y2, 3, none⟩ = some (.string ms) ∧ w6.cell? ⟨y2, 4, none⟩ = some (.int .i64 mx) := ⟨by rw [heap_cell X16.out]; rfl, by rw [heap_cell X16.out]; rfl, by rw [heap_cell X16.out]; rfl, by rw [heap_cell X16.out]; rfl, by rw [heap_cell X16.out]; rfl, by rw [heap_cell X26.out]; rfl, by rw [heap_cell X26.out]; rfl, by rw [heap_cell X26.out]; rfl, by rw [heap_cell X26.out]; rfl, by rw [heap_cell X26.out]; rfl⟩
    go_region_held3 (fun w' => w'.cell? ⟨y1, 0, none⟩ = some (.slice p n cap) ∧ w'.cell? ⟨y1, 1, none⟩ = some (.int .i64 (fin : Int)) ∧ w'.cell? ⟨y1, 2, none⟩ = some (.int .i64 (at' : Int)) ∧ w'.cell? ⟨y1, 3, none⟩ = some (.int .i64 0) ∧ w'.cell? ⟨y1, 4, none⟩ = some (.int .i64 0) ∧ w'.cell? ⟨y2, 0, none⟩ = some (.int .i64 mk) ∧ w'.cell? ⟨y2, 1, none⟩ = some (.slice mp ml mc) ∧ w'.cell? ⟨y2, 2, none⟩ = some (.string mf) ∧ w'.cell? ⟨y2, 3, none⟩ = some (.string ms) ∧ w'.cell? ⟨y2, 4, none⟩ = some (.int .i64 mx))
      (first | (with_reducible exact keep10 hc10 (Grow.trans (Grow.drew _) (by assumption))) | go_keep)
      ((go_at_call 21
        refine (ON2.out _).mono ?_
        rintro e w9 ⟨rfl, g9⟩
        have HF4 := ((Grow.drew _).trans g9).heap RA6.out
        have HF5 := ((Grow.drew _).trans g9).heap RB6.out
        have G9 := hid ((G6.out.trans (Grow.drew _)).trans g9)
        have gg9 := hid ((Grow.drew w6).trans g9)
        obtain ⟨kk0, kk1, kk2, kk3, kk4, kk5, kk6, kk7, kk8, kk9⟩ := keep10 hc10 ((Grow.drew _).trans g9)
        have z0 : w9.cell? ⟨RA, 0, none⟩ = some (.slice none 0 0) := by rw [heap_cell HF4]; rfl
        have z1 : w9.cell? ⟨RA, 1, none⟩ = some (.int .i64 0) := by rw [heap_cell HF4]; rfl
        have z2 : w9.cell? ⟨RA, 2, none⟩ = some (.int .i64 0) := by rw [heap_cell HF4]; rfl
        have z3 : w9.cell? ⟨RA, 3, none⟩ = some (.int .i64 0) := by rw [heap_cell HF4]; rfl
        have z4 : w9.cell? ⟨RA, 4, none⟩ = some (.int .i64 0) := by rw [heap_cell HF4]; rfl
        have zf0 : w9.frozen? ⟨RA, 0, none⟩ = false := heap_frozen HF4 0 (by omega)
        have zf1 : w9.frozen? ⟨RA, 1, none⟩ = false := heap_frozen HF4 1 (by omega)
        have zf2 : w9.frozen? ⟨RA, 2, none⟩ = false := heap_frozen HF4 2 (by omega)
        have zf3 : w9.frozen? ⟨RA, 3, none⟩ = false := heap_frozen HF4 3 (by omega)
        have zf4 : w9.frozen? ⟨RA, 4, none⟩ = false := heap_frozen HF4 4 (by omega)
        have x0 : w9.cell? ⟨RB, 0, none⟩ = some (.int .i64 0) := by rw [heap_cell HF5]; rfl
        have x1 : w9.cell? ⟨RB, 1, none⟩ = some (.slice none 0 0) := by rw [heap_cell HF5]; rfl
        have x2 : w9.cell? ⟨RB, 2, none⟩ = some (.string ⟨#[]⟩) := by rw [heap_cell HF5]; rfl
        have x3 : w9.cell? ⟨RB, 3, none⟩ = some (.string ⟨#[]⟩) := by rw [heap_cell HF5]; rfl
        have x4 : w9.cell? ⟨RB, 4, none⟩ = some (.int .i64 0) := by rw [heap_cell HF5]; rfl
        have xf0 : w9.frozen? ⟨RB, 0, none⟩ = false := heap_frozen HF5 0 (by omega)
        have xf1 : w9.frozen? ⟨RB, 1, none⟩ = false := heap_frozen HF5 1 (by omega)
        have xf2 : w9.frozen? ⟨RB, 2, none⟩ = false := heap_frozen HF5 2 (by omega)
        have xf3 : w9.frozen? ⟨RB, 3, none⟩ = false := heap_frozen HF5 3 (by omega)
        have xf4 : w9.frozen? ⟨RB, 4, none⟩ = false := heap_frozen HF5 4 (by omega)
        replace HF4 := hid HF4
        replace HF5 := hid HF5))
    go_wp2_with fail
    (try simp only [Exit.inBlock, Exit.then])
    have E1 := store10 G9.out (r4 := RA) (r5 := RB) (by omega) (by omega) nAB HF4.out HF5.out (.slice p n cap) (.int .i64 (fin : Int)) (.int .i64 ((at' : Int) + 1)) (.int .i64 0) (.int .i64 0) (.int .i64 mk) (.slice mp ml mc) (.string mf) (.string ms) (.int .i64 mx)
    have Y1 := by10 w9 RA RB (.slice p n cap) (.int .i64 (fin : Int)) (.int .i64 ((at' : Int) + 1)) (.int .i64 0) (.int .i64 0) (.int .i64 mk) (.slice mp ml mc) (.string mf) (.string ms) (.int .i64 mx)
    have hin9 := NodeR.In.weaken (S' := fun b => w.heap.size ≤ b) (fun b _ hS => by have h : w3.heap.size ≤ b := hS; have := hzw.out; show w.heap.size ≤ b; omega) (in10 Y1.1 Y1.2 (fun x hx hS => ⟨by have h : w3.heap.size ≤ x := hS; have := hzr.out; omega, by have h : w3.heap.size ≤ x := hS; have := hzr.out; omega⟩) (NodeR.In.grow gg9.out V6.out))
    refine read_ret (nd := nd) (at' := at' + 1) (e' := 0) (pos' := 0) rfl rfl rfl (E1.1.trans (by push_cast; rfl)) E1.2.1 E1.2.2 hin9 (by omega) (by omega) ?_
    rw [c5.out]
    exact ⟨rfl, rfl, rfl, rfl⟩
  · have CC := hid (fun (w' : World) (g : Grow w6 w') => RfailNew_c p n cap fin at' 0 41 T w' (HT.out.grow (G6.out.trans g)) (by omega))
    unfold rdV at CC
    have hnstr : ¬nx.str.toList = [41] := fun e => c1 (toList_injR (e.trans (Eq.symm (show ByteArray.toList bShut = [41] from by kernel_rfl))))
    have hnstr2 : (nx.str.toList == [41]) = false := by simpa using hnstr
    replace c5 := hid c5
    clear c1 hcase
    go_wp2_with fail
    have hc10 : w6.cell? ⟨y1, 0, none⟩ = some (.slice p n cap) ∧ w6.cell? ⟨y1, 1, none⟩ = some (.int .i64 (fin : Int)) ∧ w6.cell? ⟨y1, 2, none⟩ = some (.int .i64 (at' : Int)) ∧ w6.cell? ⟨y1, 3, none⟩ = some (.int .i64 0) ∧ w6.cell? ⟨y1, 4, none⟩ = some (.int .i64 0) ∧ w6.cell? ⟨y2, 0, none⟩ = some (.int .i64 mk) ∧ w6.cell? ⟨y2, 1, none⟩ = some (.slice mp ml mc) ∧ w6.cell? ⟨y2, 2, none⟩ = some (.string mf) ∧ w6.cell? ⟨y2, 3, none⟩ = some (.string ms) ∧ w6.cell? ⟨y2, 4, none⟩ = some (.int .i64 mx) := ⟨by rw [heap_cell X16.out]; rfl, by rw [heap_cell X16.out]; rfl, by rw [heap_cell X16.out]; rfl, by rw [heap_cell X16.out]; rfl, by rw [heap_cell X16.out]; rfl, by rw [heap_cell X26.out]; rfl, by rw [heap_cell X26.out]; rfl, by rw [heap_cell X26.out]; rfl, by rw [heap_cell X26.out]; rfl, by rw [heap_cell X26.out]; rfl⟩
    go_region_held3 (fun w' => w'.cell? ⟨y1, 0, none⟩ = some (.slice p n cap) ∧ w'.cell? ⟨y1, 1, none⟩ = some (.int .i64 (fin : Int)) ∧ w'.cell? ⟨y1, 2, none⟩ = some (.int .i64 (at' : Int)) ∧ w'.cell? ⟨y1, 3, none⟩ = some (.int .i64 0) ∧ w'.cell? ⟨y1, 4, none⟩ = some (.int .i64 0) ∧ w'.cell? ⟨y2, 0, none⟩ = some (.int .i64 mk) ∧ w'.cell? ⟨y2, 1, none⟩ = some (.slice mp ml mc) ∧ w'.cell? ⟨y2, 2, none⟩ = some (.string mf) ∧ w'.cell? ⟨y2, 3, none⟩ = some (.string ms) ∧ w'.cell? ⟨y2, 4, none⟩ = some (.int .i64 mx))
      (first | (with_reducible exact keep10 hc10 (Grow.trans (Grow.drew _) (by assumption))) | go_keep)
      ((go_at_call 24
        refine (CC.out _ (Grow.drew _)).mono ?_
        rintro e w9 ⟨rfl, g9⟩
        have HF4 := ((Grow.drew _).trans g9).heap RA6.out
        have HF5 := ((Grow.drew _).trans g9).heap RB6.out
        have G9 := hid ((G6.out.trans (Grow.drew _)).trans g9)
        have gg9 := hid ((Grow.drew w6).trans g9)
        obtain ⟨kk0, kk1, kk2, kk3, kk4, kk5, kk6, kk7, kk8, kk9⟩ := keep10 hc10 ((Grow.drew _).trans g9)
        have z0 : w9.cell? ⟨RA, 0, none⟩ = some (.slice none 0 0) := by rw [heap_cell HF4]; rfl
        have z1 : w9.cell? ⟨RA, 1, none⟩ = some (.int .i64 0) := by rw [heap_cell HF4]; rfl
        have z2 : w9.cell? ⟨RA, 2, none⟩ = some (.int .i64 0) := by rw [heap_cell HF4]; rfl
        have z3 : w9.cell? ⟨RA, 3, none⟩ = some (.int .i64 0) := by rw [heap_cell HF4]; rfl
        have z4 : w9.cell? ⟨RA, 4, none⟩ = some (.int .i64 0) := by rw [heap_cell HF4]; rfl
        have zf0 : w9.frozen? ⟨RA, 0, none⟩ = false := heap_frozen HF4 0 (by omega)
        have zf1 : w9.frozen? ⟨RA, 1, none⟩ = false := heap_frozen HF4 1 (by omega)
        have zf2 : w9.frozen? ⟨RA, 2, none⟩ = false := heap_frozen HF4 2 (by omega)
        have zf3 : w9.frozen? ⟨RA, 3, none⟩ = false := heap_frozen HF4 3 (by omega)
        have zf4 : w9.frozen? ⟨RA, 4, none⟩ = false := heap_frozen HF4 4 (by omega)
        have x0 : w9.cell? ⟨RB, 0, none⟩ = some (.int .i64 0) := by rw [heap_cell HF5]; rfl
        have x1 : w9.cell? ⟨RB, 1, none⟩ = some (.slice none 0 0) := by rw [heap_cell HF5]; rfl
        have x2 : w9.cell? ⟨RB, 2, none⟩ = some (.string ⟨#[]⟩) := by rw [heap_cell HF5]; rfl
        have x3 : w9.cell? ⟨RB, 3, none⟩ = some (.string ⟨#[]⟩) := by rw [heap_cell HF5]; rfl
        have x4 : w9.cell? ⟨RB, 4, none⟩ = some (.int .i64 0) := by rw [heap_cell HF5]; rfl
        have xf0 : w9.frozen? ⟨RB, 0, none⟩ = false := heap_frozen HF5 0 (by omega)
        have xf1 : w9.frozen? ⟨RB, 1, none⟩ = false := heap_frozen HF5 1 (by omega)
        have xf2 : w9.frozen? ⟨RB, 2, none⟩ = false := heap_frozen HF5 2 (by omega)
        have xf3 : w9.frozen? ⟨RB, 3, none⟩ = false := heap_frozen HF5 3 (by omega)
        have xf4 : w9.frozen? ⟨RB, 4, none⟩ = false := heap_frozen HF5 4 (by omega)
        replace HF4 := hid HF4
        replace HF5 := hid HF5))
    go_wp2_with fail
    (try simp only [Exit.inBlock, Exit.then])
    have E1 := store10 G9.out (r4 := RA) (r5 := RB) (by omega) (by omega) nAB HF4.out HF5.out (.slice p n cap) (.int .i64 (fin : Int)) (.int .i64 ((at' : Nat) : Int)) (.int .i64 ((failE 41 (T.drop at') : Nat) : Int)) (.int .i64 ((failAt fin (T.drop at') : Nat) : Int)) (.int .i64 mk) (.slice mp ml mc) (.string mf) (.string ms) (.int .i64 mx)
    have Y1 := by10 w9 RA RB (.slice p n cap) (.int .i64 (fin : Int)) (.int .i64 ((at' : Nat) : Int)) (.int .i64 ((failE 41 (T.drop at') : Nat) : Int)) (.int .i64 ((failAt fin (T.drop at') : Nat) : Int)) (.int .i64 mk) (.slice mp ml mc) (.string mf) (.string ms) (.int .i64 mx)
    have hin9 := NodeR.In.weaken (S' := fun b => w.heap.size ≤ b) (fun b _ hS => by have h : w3.heap.size ≤ b := hS; have := hzw.out; show w.heap.size ≤ b; omega) (in10 Y1.1 Y1.2 (fun x hx hS => ⟨by have h : w3.heap.size ≤ x := hS; have := hzr.out; omega, by have h : w3.heap.size ≤ x := hS; have := hzr.out; omega⟩) (NodeR.In.grow gg9.out V6.out))
    have hF := failE_ne 41 (T.drop at') (by omega) (by omega)
    refine read_ret (nd := nd) (at' := at') rfl rfl rfl E1.1 E1.2.1 E1.2.2 hin9 (by omega) hF.2 ?_
    rw [c5.out]
    exact ⟨rfl, rfl, hF.1⟩
  · have CC := hid (fun (w' : World) => RfailOld_c p n cap fin at' e' pos' 41 w' c4)
    unfold rdV at CC
    have hnstr : ¬nx.str.toList = [41] := fun e => c1 (toList_injR (e.trans (Eq.symm (show ByteArray.toList bShut = [41] from by kernel_rfl))))
    have hnstr2 : (nx.str.toList == [41]) = false := by simpa using hnstr
    replace c5 := hid c5
    clear c1 hcase
    go_wp2_with fail
    have hc10 : w6.cell? ⟨y1, 0, none⟩ = some (.slice p n cap) ∧ w6.cell? ⟨y1, 1, none⟩ = some (.int .i64 (fin : Int)) ∧ w6.cell? ⟨y1, 2, none⟩ = some (.int .i64 (at' : Int)) ∧ w6.cell? ⟨y1, 3, none⟩ = some (.int .i64 (e' : Int)) ∧ w6.cell? ⟨y1, 4, none⟩ = some (.int .i64 (pos' : Int)) ∧ w6.cell? ⟨y2, 0, none⟩ = some (.int .i64 mk) ∧ w6.cell? ⟨y2, 1, none⟩ = some (.slice mp ml mc) ∧ w6.cell? ⟨y2, 2, none⟩ = some (.string mf) ∧ w6.cell? ⟨y2, 3, none⟩ = some (.string ms) ∧ w6.cell? ⟨y2, 4, none⟩ = some (.int .i64 mx) := ⟨by rw [heap_cell X16.out]; rfl, by rw [heap_cell X16.out]; rfl, by rw [heap_cell X16.out]; rfl, by rw [heap_cell X16.out]; rfl, by rw [heap_cell X16.out]; rfl, by rw [heap_cell X26.out]; rfl, by rw [heap_cell X26.out]; rfl, by rw [heap_cell X26.out]; rfl, by rw [heap_cell X26.out]; rfl, by rw [heap_cell X26.out]; rfl⟩
    go_region_held3 (fun w' => w'.cell? ⟨y1, 0, none⟩ = some (.slice p n cap) ∧ w'.cell? ⟨y1, 1, none⟩ = some (.int .i64 (fin : Int)) ∧ w'.cell? ⟨y1, 2, none⟩ = some (.int .i64 (at' : Int)) ∧ w'.cell? ⟨y1, 3, none⟩ = some (.int .i64 (e' : Int)) ∧ w'.cell? ⟨y1, 4, none⟩ = some (.int .i64 (pos' : Int)) ∧ w'.cell? ⟨y2, 0, none⟩ = some (.int .i64 mk) ∧ w'.cell? ⟨y2, 1, none⟩ = some (.slice mp ml mc) ∧ w'.cell? ⟨y2, 2, none⟩ = some (.string mf) ∧ w'.cell? ⟨y2, 3, none⟩ = some (.string ms) ∧ w'.cell? ⟨y2, 4, none⟩ = some (.int .i64 mx))
      (first | (with_reducible exact keep10 hc10 (Grow.trans (Grow.drew _) (by assumption))) | go_keep)
      ((go_at_call 24
        refine (CC.out _).mono ?_
        rintro e w9 ⟨rfl, g9⟩
        have HF4 := ((Grow.drew _).trans g9).heap RA6.out
        have HF5 := ((Grow.drew _).trans g9).heap RB6.out
        have G9 := hid ((G6.out.trans (Grow.drew _)).trans g9)
        have gg9 := hid ((Grow.drew w6).trans g9)
        obtain ⟨kk0, kk1, kk2, kk3, kk4, kk5, kk6, kk7, kk8, kk9⟩ := keep10 hc10 ((Grow.drew _).trans g9)
        have z0 : w9.cell? ⟨RA, 0, none⟩ = some (.slice none 0 0) := by rw [heap_cell HF4]; rfl
        have z1 : w9.cell? ⟨RA, 1, none⟩ = some (.int .i64 0) := by rw [heap_cell HF4]; rfl
        have z2 : w9.cell? ⟨RA, 2, none⟩ = some (.int .i64 0) := by rw [heap_cell HF4]; rfl
        have z3 : w9.cell? ⟨RA, 3, none⟩ = some (.int .i64 0) := by rw [heap_cell HF4]; rfl
        have z4 : w9.cell? ⟨RA, 4, none⟩ = some (.int .i64 0) := by rw [heap_cell HF4]; rfl
        have zf0 : w9.frozen? ⟨RA, 0, none⟩ = false := heap_frozen HF4 0 (by omega)
        have zf1 : w9.frozen? ⟨RA, 1, none⟩ = false := heap_frozen HF4 1 (by omega)
        have zf2 : w9.frozen? ⟨RA, 2, none⟩ = false := heap_frozen HF4 2 (by omega)
        have zf3 : w9.frozen? ⟨RA, 3, none⟩ = false := heap_frozen HF4 3 (by omega)
        have zf4 : w9.frozen? ⟨RA, 4, none⟩ = false := heap_frozen HF4 4 (by omega)
        have x0 : w9.cell? ⟨RB, 0, none⟩ = some (.int .i64 0) := by rw [heap_cell HF5]; rfl
        have x1 : w9.cell? ⟨RB, 1, none⟩ = some (.slice none 0 0) := by rw [heap_cell HF5]; rfl
        have x2 : w9.cell? ⟨RB, 2, none⟩ = some (.string ⟨#[]⟩) := by rw [heap_cell HF5]; rfl
        have x3 : w9.cell? ⟨RB, 3, none⟩ = some (.string ⟨#[]⟩) := by rw [heap_cell HF5]; rfl
        have x4 : w9.cell? ⟨RB, 4, none⟩ = some (.int .i64 0) := by rw [heap_cell HF5]; rfl
        have xf0 : w9.frozen? ⟨RB, 0, none⟩ = false := heap_frozen HF5 0 (by omega)
        have xf1 : w9.frozen? ⟨RB, 1, none⟩ = false := heap_frozen HF5 1 (by omega)
        have xf2 : w9.frozen? ⟨RB, 2, none⟩ = false := heap_frozen HF5 2 (by omega)
        have xf3 : w9.frozen? ⟨RB, 3, none⟩ = false := heap_frozen HF5 3 (by omega)
        have xf4 : w9.frozen? ⟨RB, 4, none⟩ = false := heap_frozen HF5 4 (by omega)
        replace HF4 := hid HF4
        replace HF5 := hid HF5))
    go_wp2_with fail
    (try simp only [Exit.inBlock, Exit.then])
    have E1 := store10 G9.out (r4 := RA) (r5 := RB) (by omega) (by omega) nAB HF4.out HF5.out (.slice p n cap) (.int .i64 (fin : Int)) (.int .i64 (at' : Int)) (.int .i64 (e' : Int)) (.int .i64 (pos' : Int)) (.int .i64 mk) (.slice mp ml mc) (.string mf) (.string ms) (.int .i64 mx)
    have Y1 := by10 w9 RA RB (.slice p n cap) (.int .i64 (fin : Int)) (.int .i64 (at' : Int)) (.int .i64 (e' : Int)) (.int .i64 (pos' : Int)) (.int .i64 mk) (.slice mp ml mc) (.string mf) (.string ms) (.int .i64 mx)
    have hin9 := NodeR.In.weaken (S' := fun b => w.heap.size ≤ b) (fun b _ hS => by have h : w3.heap.size ≤ b := hS; have := hzw.out; show w.heap.size ≤ b; omega) (in10 Y1.1 Y1.2 (fun x hx hS => ⟨by have h : w3.heap.size ≤ x := hS; have := hzr.out; omega, by have h : w3.heap.size ≤ x := hS; have := hzr.out; omega⟩) (NodeR.In.grow gg9.out V6.out))
    refine read_ret (nd := nd) (at' := at') (e' := e') (pos' := pos') rfl rfl rfl E1.1 E1.2.1 E1.2.2 hin9 (by omega) he' ?_
    rw [c5.out]
    exact ⟨rfl, rfl, c4⟩
set_option maxRecDepth 100000 in
set_option maxHeartbeats 8000000 in
theorem RPartOver (p : Option Addr) (n cap fin at_ dp : Nat) (T : List Tok) (w : World) (hT : TokS w p n cap T) (hat : at_ ≤ T.length) (hd : dp ≤ 32) (t : Tok) (ht : nextK T at_ 0 = t) (hlt : at_ < T.length) (h1 : t.str.toList = [111, 118, 101, 114, 108, 97, 112, 115]) :
    Calls Tryd.prog 37 #[rdV p n cap fin at_ 0 0, .int .i64 (dp : Int)] w (RPost T p n cap fin (nearP fin (t :: T.drop (at_ + 1))) w) := by
  have HT := hid hT
  have hn4 : T.length ≤ 4096 := by rw [← hT.1]; exact hT.cells.1
  unfold rdV
  rw [show ((0 : Nat) : Int) = (0 : Int) from rfl]
  have hd1 : (dp : Int) ≤ 32 := by omega
  have G0 := hid (Grow.trans (Grow.trans (Grow.alloc w (.cells #[.slice p n cap, .int .i64 (fin : Int), .int .i64 (at_ : Int), .int .i64 0, .int .i64 0] 52)) (Grow.alloc _ ReadZ)) (Grow.alloc _ NodeZ))
  have B0 := hid (heap_alloc_keep (heap_alloc_keep (heap_new w (.cells #[.slice p n cap, .int .i64 (fin : Int), .int .i64 (at_ : Int), .int .i64 0, .int .i64 0] 52)) ReadZ) NodeZ)
  have R40 := hid (heap_alloc_keep (heap_newAt (w.alloc (.cells #[.slice p n cap, .int .i64 (fin : Int), .int .i64 (at_ : Int), .int .i64 0, .int .i64 0] 52)) ReadZ (g := w.heap.size + 1) (by simp)) NodeZ)
  have R50 := hid (heap_newAt ((w.alloc (.cells #[.slice p n cap, .int .i64 (fin : Int), .int .i64 (at_ : Int), .int .i64 0, .int .i64 0] 52)).alloc ReadZ) NodeZ (g := w.heap.size + 1 + 1) (by simp))
  have NX := hid (fun (w' : World) (g : Grow w w') => Rnext_c p n cap fin at_ 0 0 T w' (hT.grow g) (by omega) (by omega))
  unfold rdV at NX
  have hd2 : ¬(32 : Int) < dp := by omega
  rw [ht] at NX
  replace ht := hid ht
  clear hT
  go_enter Tryd.func37, Tryd.ntmps37
  go_wp2_with fail
  refine (NX.out _ G0.out).mono ?_
  rintro e w1 ⟨rfl, g1⟩
  unfold tokV
  generalize hH : w.heap.size = H at *
  have hws : w.heap.size ≤ H := Nat.le_of_eq hH
  replace hH := hid hH
  have hA1 : H < H + 1 := by omega
  have hB1 : H + 1 < H + 1 + 1 := by omega
  generalize H + 1 + 1 = RB at *
  generalize H + 1 = RA at *
  have nHA : H ≠ RA := by omega
  have nHB : H ≠ RB := by omega
  have nAB : RA ≠ RB := by omega
  have nAH : RA ≠ H := by omega
  have nBH : RB ≠ H := by omega
  have nBA : RB ≠ RA := by omega
  have G2 := hid ((G0.out.trans g1).trans (Grow.alloc w1 (.cells #[.int .i64 (t.kind : Int), .string t.str, .int .i64 t.num, .int .i64 (t.pos : Int)] 54)))
  have HB := hid (heap_alloc_keep (g1.heap B0.out) (.cells #[.int .i64 (t.kind : Int), .string t.str, .int .i64 t.num, .int .i64 (t.pos : Int)] 54))
  have RA2 := hid (heap_alloc_keep (g1.heap R40.out) (.cells #[.int .i64 (t.kind : Int), .string t.str, .int .i64 t.num, .int .i64 (t.pos : Int)] 54))
  have RB2 := hid (heap_alloc_keep (g1.heap R50.out) (.cells #[.int .i64 (t.kind : Int), .string t.str, .int .i64 t.num, .int .i64 (t.pos : Int)] 54))
  have TB := hid (heap_new w1 (.cells #[.int .i64 (t.kind : Int), .string t.str, .int .i64 t.num, .int .i64 (t.pos : Int)] 54))
  have hz1 := heap_lt (g1.heap R50.out)
  clear g1 G0 B0 R40 R50 NX
  go_upto_region 4 with fail
  generalize w1.alloc (.cells #[.int .i64 (t.kind : Int), .string t.str, .int .i64 t.num, .int .i64 (t.pos : Int)] 54) = w2 at *
  generalize w1.heap.size = tb at *
  have b0 : w2.cell? ⟨H, 0, none⟩ = some (.slice p n cap) := by rw [heap_cell HB.out]; rfl
  have b1 : w2.cell? ⟨H, 1, none⟩ = some (.int .i64 (fin : Int)) := by rw [heap_cell HB.out]; rfl
  have b2 : w2.cell? ⟨H, 2, none⟩ = some (.int .i64 (at_ : Int)) := by rw [heap_cell HB.out]; rfl
  have b3 : w2.cell? ⟨H, 3, none⟩ = some (.int .i64 0) := by rw [heap_cell HB.out]; rfl
  have b4 : w2.cell? ⟨H, 4, none⟩ = some (.int .i64 0) := by rw [heap_cell HB.out]; rfl
  have u0 : w2.cell? ⟨tb, 0, none⟩ = some (.int .i64 (t.kind : Int)) := by rw [heap_cell TB.out]; rfl
  have u1 : w2.cell? ⟨tb, 1, none⟩ = some (.string t.str) := by rw [heap_cell TB.out]; rfl
  have u2 : w2.cell? ⟨tb, 2, none⟩ = some (.int .i64 t.num) := by rw [heap_cell TB.out]; rfl
  have u3 : w2.cell? ⟨tb, 3, none⟩ = some (.int .i64 (t.pos : Int)) := by rw [heap_cell TB.out]; rfl
  have nTA : tb ≠ RA := by omega
  have nTB : tb ≠ RB := by omega
  have nAT : RA ≠ tb := by omega
  have nBT : RB ≠ tb := by omega
  have hzt := heap_lt TB.out
  have hzH := heap_lt HB.out
  have ON := hid (Ron_c p n cap fin at_ 0 0 w2 (by omega))
  unfold rdV at ON
  go_wp2_with fail
  refine ON.out.mono ?_
  rintro e w3 ⟨rfl, g3⟩
  have HH3 := g3.heap HB.out
  have RA3 := g3.heap RA2.out
  have RB3 := g3.heap RB2.out
  have TB3 := g3.heap TB.out
  have nTH : tb ≠ H := by omega
  have Z := set5 (G2.out.trans g3) hws HH3 (.slice p n cap) (.int .i64 (fin : Int)) (.int .i64 ((at_ : Int) + 1)) (.int .i64 0) (.int .i64 0)
  have RA4 := hid (Z.2.2.1 RA _ nAH RA3)
  have RB4 := hid (Z.2.2.1 RB _ nBH RB3)
  have TB4 := hid (Z.2.2.1 tb _ nTH TB3)
  have HH4 := hid Z.1
  have G4 := hid Z.2.1
  clear b0 b1 b2 b3 b4 u0 u1 u2 u3 ON
  have b0 : w3.cell? ⟨H, 0, none⟩ = some (.slice p n cap) := by rw [heap_cell HH3]; rfl
  have b1 : w3.cell? ⟨H, 1, none⟩ = some (.int .i64 (fin : Int)) := by rw [heap_cell HH3]; rfl
  have b2 : w3.cell? ⟨H, 2, none⟩ = some (.int .i64 (at_ : Int)) := by rw [heap_cell HH3]; rfl
  have b3 : w3.cell? ⟨H, 3, none⟩ = some (.int .i64 0) := by rw [heap_cell HH3]; rfl
  have b4 : w3.cell? ⟨H, 4, none⟩ = some (.int .i64 0) := by rw [heap_cell HH3]; rfl
  have y0 : w3.frozen? ⟨H, 0, none⟩ = false := heap_frozen HH3 0 (by omega)
  have y1 : w3.frozen? ⟨H, 1, none⟩ = false := heap_frozen HH3 1 (by omega)
  have y2 : w3.frozen? ⟨H, 2, none⟩ = false := heap_frozen HH3 2 (by omega)
  have y3 : w3.frozen? ⟨H, 3, none⟩ = false := heap_frozen HH3 3 (by omega)
  have y4 : w3.frozen? ⟨H, 4, none⟩ = false := heap_frozen HH3 4 (by omega)
  have hzH3 := heap_lt HH3
  clear HH3 RA3 RB3 TB3 Z g3
  go_upto_region 16 with fail
  clear b0 b1 b2 b3 b4 y0 y1 y2 y3 y4
  generalize (((((w3.setCell ⟨H, 0, none⟩ (.slice p n cap)).setCell ⟨H, 1, none⟩ (.int .i64 (fin : Int))).setCell ⟨H, 2, none⟩ (.int .i64 ((at_ : Int) + 1))).setCell ⟨H, 3, none⟩ (.int .i64 0)).setCell ⟨H, 4, none⟩ (.int .i64 0)) = w4 at *
  have b0 : w4.cell? ⟨H, 0, none⟩ = some (.slice p n cap) := by rw [heap_cell HH4.out]; rfl
  have b1 : w4.cell? ⟨H, 1, none⟩ = some (.int .i64 (fin : Int)) := by rw [heap_cell HH4.out]; rfl
  have b2 : w4.cell? ⟨H, 2, none⟩ = some (.int .i64 ((at_ : Int) + 1)) := by rw [heap_cell HH4.out]; rfl
  have b3 : w4.cell? ⟨H, 3, none⟩ = some (.int .i64 0) := by rw [heap_cell HH4.out]; rfl
  have b4 : w4.cell? ⟨H, 4, none⟩ = some (.int .i64 0) := by rw [heap_cell HH4.out]; rfl
  have NXT := Rnext_c p n cap fin (at_ + 1) 0 0 T w4 (HT.out.grow G4.out) (by omega) (by omega)
  unfold rdV at NXT
  rw [show ((at_ + 1 : Nat) : Int) = (at_ : Int) + 1 from by omega] at NXT
  have hnv := hid (nearR_eq fin t T at_)
  generalize nextK T (at_ + 1) 0 = v at *
  replace NXT := hid NXT
  have hzH4 := heap_lt HH4.out
  go_wp2_with fail
  refine NXT.out.mono ?_
  rintro e w5 ⟨rfl, g5⟩
  unfold tokV
  have G6 := hid ((G4.out.trans g5).trans (Grow.alloc w5 (.cells #[.int .i64 (v.kind : Int), .string v.str, .int .i64 v.num, .int .i64 (v.pos : Int)] 54)))
  have RA6 := hid (heap_alloc_keep (g5.heap RA4.out) (.cells #[.int .i64 (v.kind : Int), .string v.str, .int .i64 v.num, .int .i64 (v.pos : Int)] 54))
  have RB6 := hid (heap_alloc_keep (g5.heap RB4.out) (.cells #[.int .i64 (v.kind : Int), .string v.str, .int .i64 v.num, .int .i64 (v.pos : Int)] 54))
  have TB6 := hid (heap_alloc_keep (g5.heap TB4.out) (.cells #[.int .i64 (v.kind : Int), .string v.str, .int .i64 v.num, .int .i64 (v.pos : Int)] 54))
  have HH6 := hid (heap_alloc_keep (g5.heap HH4.out) (.cells #[.int .i64 (v.kind : Int), .string v.str, .int .i64 v.num, .int .i64 (v.pos : Int)] 54))
  have VB6 := hid (heap_new w5 (.cells #[.int .i64 (v.kind : Int), .string v.str, .int .i64 v.num, .int .i64 (v.pos : Int)] 54))
  have hs5 : RB < w5.heap.size := heap_lt (g5.heap RB4.out)
  clear b0 b1 b2 b3 b4 g5 NXT
  go_upto_region 17 with fail
  generalize w5.alloc (.cells #[.int .i64 (v.kind : Int), .string v.str, .int .i64 v.num, .int .i64 (v.pos : Int)] 54) = w6 at *
  generalize w5.heap.size = tk at *
  have u0 : w6.cell? ⟨tk, 0, none⟩ = some (.int .i64 (v.kind : Int)) := by rw [heap_cell VB6.out]; rfl
  have u1 : w6.cell? ⟨tk, 1, none⟩ = some (.string v.str) := by rw [heap_cell VB6.out]; rfl
  have u2 : w6.cell? ⟨tk, 2, none⟩ = some (.int .i64 v.num) := by rw [heap_cell VB6.out]; rfl
  have u3 : w6.cell? ⟨tk, 3, none⟩ = some (.int .i64 (v.pos : Int)) := by rw [heap_cell VB6.out]; rfl
  have b0 : w6.cell? ⟨H, 0, none⟩ = some (.slice p n cap) := by rw [heap_cell HH6.out]; rfl
  have b1 : w6.cell? ⟨H, 1, none⟩ = some (.int .i64 (fin : Int)) := by rw [heap_cell HH6.out]; rfl
  have b2 : w6.cell? ⟨H, 2, none⟩ = some (.int .i64 ((at_ : Int) + 1)) := by rw [heap_cell HH6.out]; rfl
  have b3 : w6.cell? ⟨H, 3, none⟩ = some (.int .i64 0) := by rw [heap_cell HH6.out]; rfl
  have b4 : w6.cell? ⟨H, 4, none⟩ = some (.int .i64 0) := by rw [heap_cell HH6.out]; rfl
  have hzk := heap_lt VB6.out
  have nVA : tk ≠ RA := by omega
  have nVB : tk ≠ RB := by omega
  have nAV : RA ≠ tk := by omega
  have nBV : RB ≠ tk := by omega
  have hzH6 := heap_lt HH6.out
  by_cases hk : v.kind = 2
  rotate_left
  · have k1 : ((v.kind : Int) != 2) = true := by simp; omega
    have FN := RfailNew_c p n cap fin (at_ + 1) 0 41 T w6 (HT.out.grow G6.out) (by omega)
    unfold rdV at FN
    rw [show ((at_ + 1 : Nat) : Int) = (at_ : Int) + 1 from by omega] at FN
    replace FN := hid FN
    replace hk := hid hk
    go_wp2_with fail
    refine FN.out.mono ?_
    rintro e w7 ⟨rfl, g7⟩
    have RA7 := g7.heap RA6.out
    have RB7 := g7.heap RB6.out
    have E := hid (store10 (G6.out.trans g7) (r4 := RA) (r5 := RB) (by omega) (by omega) nAB RA7 RB7 (.slice p n cap) (.int .i64 (fin : Int)) (.int .i64 ((at_ : Int) + 1)) (.int .i64 ((failE 41 (T.drop (at_ + 1)) : Nat) : Int)) (.int .i64 ((failAt fin (T.drop (at_ + 1)) : Nat) : Int)) (.int .i64 0) (.slice none 0 0) (.string ⟨#[]⟩) (.string ⟨#[]⟩) (.int .i64 0))
    have z0 : w7.cell? ⟨RA, 0, none⟩ = some (.slice none 0 0) := by rw [heap_cell RA7]; rfl
    have z1 : w7.cell? ⟨RA, 1, none⟩ = some (.int .i64 0) := by rw [heap_cell RA7]; rfl
    have z2 : w7.cell? ⟨RA, 2, none⟩ = some (.int .i64 0) := by rw [heap_cell RA7]; rfl
    have z3 : w7.cell? ⟨RA, 3, none⟩ = some (.int .i64 0) := by rw [heap_cell RA7]; rfl
    have z4 : w7.cell? ⟨RA, 4, none⟩ = some (.int .i64 0) := by rw [heap_cell RA7]; rfl
    have zf0 : w7.frozen? ⟨RA, 0, none⟩ = false := heap_frozen RA7 0 (by omega)
    have zf1 : w7.frozen? ⟨RA, 1, none⟩ = false := heap_frozen RA7 1 (by omega)
    have zf2 : w7.frozen? ⟨RA, 2, none⟩ = false := heap_frozen RA7 2 (by omega)
    have zf3 : w7.frozen? ⟨RA, 3, none⟩ = false := heap_frozen RA7 3 (by omega)
    have zf4 : w7.frozen? ⟨RA, 4, none⟩ = false := heap_frozen RA7 4 (by omega)
    have x0 : w7.cell? ⟨RB, 0, none⟩ = some (.int .i64 0) := by rw [heap_cell RB7]; rfl
    have x1 : w7.cell? ⟨RB, 1, none⟩ = some (.slice none 0 0) := by rw [heap_cell RB7]; rfl
    have x2 : w7.cell? ⟨RB, 2, none⟩ = some (.string ⟨#[]⟩) := by rw [heap_cell RB7]; rfl
    have x3 : w7.cell? ⟨RB, 3, none⟩ = some (.string ⟨#[]⟩) := by rw [heap_cell RB7]; rfl
    have x4 : w7.cell? ⟨RB, 4, none⟩ = some (.int .i64 0) := by rw [heap_cell RB7]; rfl
    have xf0 : w7.frozen? ⟨RB, 0, none⟩ = false := heap_frozen RB7 0 (by omega)
    have xf1 : w7.frozen? ⟨RB, 1, none⟩ = false := heap_frozen RB7 1 (by omega)
    have xf2 : w7.frozen? ⟨RB, 2, none⟩ = false := heap_frozen RB7 2 (by omega)
    have xf3 : w7.frozen? ⟨RB, 3, none⟩ = false := heap_frozen RB7 3 (by omega)
    have xf4 : w7.frozen? ⟨RB, 4, none⟩ = false := heap_frozen RB7 4 (by omega)
    clear RA7 RB7 g7 FN b0 b1 b2 b3 b4 u0 u1 u2 u3
    go_wp2_with fail
    (try simp only [Exit.inBlock, Exit.then])
    have E1 := E.out
    have hF := failE_ne 41 (T.drop (at_ + 1)) (by omega) (by omega)
    refine read_ret (nd := .zero) (at' := at_ + 1) rfl rfl rfl (E1.1.trans (by push_cast; rfl)) E1.2.1 E1.2.2 (NodeR.In.leaf _ _ 0 ⟨#[]⟩ ⟨#[]⟩ 0) (by omega) hF.2 ?_
    rw [hnv.out.1, if_neg hk.out]
    exact ⟨rfl, rfl, hF.1⟩
  · have k1 : ((v.kind : Int) != 2) = false := by simp; omega
    have ON2 := fun (w' : World) => Ron_c p n cap fin (at_ + 1) 0 0 w' (by omega)
    unfold rdV at ON2
    rw [show ((at_ + 1 : Nat) : Int) = (at_ : Int) + 1 from by omega] at ON2
    replace ON2 := hid ON2
    have hk0 := hid hk
    clear hk
    go_wp2_with fail
    clear b0 b1 b2 b3 b4 u0 u1 u2 u3
    have hc10 : w6.cell? ⟨H, 0, none⟩ = some (.slice p n cap) ∧ w6.cell? ⟨H, 1, none⟩ = some (.int .i64 (fin : Int)) ∧ w6.cell? ⟨H, 2, none⟩ = some (.int .i64 ((at_ : Int) + 1)) ∧ w6.cell? ⟨H, 3, none⟩ = some (.int .i64 0) ∧ w6.cell? ⟨H, 4, none⟩ = some (.int .i64 0) ∧ w6.cell? ⟨tb, 1, none⟩ = some (.string t.str) ∧ w6.cell? ⟨tk, 2, none⟩ = some (.int .i64 v.num) ∧ w6.cell? ⟨tk, 1, none⟩ = some (.string v.str) ∧ w6.cell? ⟨tk, 0, none⟩ = some (.int .i64 (v.kind : Int)) ∧ w6.cell? ⟨tk, 3, none⟩ = some (.int .i64 (v.pos : Int)) := ⟨by rw [heap_cell HH6.out]; rfl, by rw [heap_cell HH6.out]; rfl, by rw [heap_cell HH6.out]; rfl, by rw [heap_cell HH6.out]; rfl, by rw [heap_cell HH6.out]; rfl, by rw [heap_cell TB6.out]; rfl, by rw [heap_cell VB6.out]; rfl, by rw [heap_cell VB6.out]; rfl, by rw [heap_cell VB6.out]; rfl, by rw [heap_cell VB6.out]; rfl⟩
    go_region_held3 (fun w' => w'.cell? ⟨H, 0, none⟩ = some (.slice p n cap) ∧ w'.cell? ⟨H, 1, none⟩ = some (.int .i64 (fin : Int)) ∧ w'.cell? ⟨H, 2, none⟩ = some (.int .i64 ((at_ : Int) + 1)) ∧ w'.cell? ⟨H, 3, none⟩ = some (.int .i64 0) ∧ w'.cell? ⟨H, 4, none⟩ = some (.int .i64 0) ∧ w'.cell? ⟨tb, 1, none⟩ = some (.string t.str) ∧ w'.cell? ⟨tk, 2, none⟩ = some (.int .i64 v.num) ∧ w'.cell? ⟨tk, 1, none⟩ = some (.string v.str) ∧ w'.cell? ⟨tk, 0, none⟩ = some (.int .i64 (v.kind : Int)) ∧ w'.cell? ⟨tk, 3, none⟩ = some (.int .i64 (v.pos : Int)))
      (first | (with_reducible exact keep10 hc10 (Grow.trans (Grow.drew _) (by assumption))) | go_keep)
      ((go_at_call 21
        refine (ON2.out _).mono ?_
        rintro e w9 ⟨rfl, g9⟩
        have HF4 := ((Grow.drew _).trans g9).heap RA6.out
        have HF5 := ((Grow.drew _).trans g9).heap RB6.out
        have G9 := hid ((G6.out.trans (Grow.drew _)).trans g9)
        have gg9 := hid ((Grow.drew w6).trans g9)
        obtain ⟨kk0, kk1, kk2, kk3, kk4, kk5, kk6, kk7, kk8, kk9⟩ := keep10 hc10 ((Grow.drew _).trans g9)
        have z0 : w9.cell? ⟨RA, 0, none⟩ = some (.slice none 0 0) := by rw [heap_cell HF4]; rfl
        have z1 : w9.cell? ⟨RA, 1, none⟩ = some (.int .i64 0) := by rw [heap_cell HF4]; rfl
        have z2 : w9.cell? ⟨RA, 2, none⟩ = some (.int .i64 0) := by rw [heap_cell HF4]; rfl
        have z3 : w9.cell? ⟨RA, 3, none⟩ = some (.int .i64 0) := by rw [heap_cell HF4]; rfl
        have z4 : w9.cell? ⟨RA, 4, none⟩ = some (.int .i64 0) := by rw [heap_cell HF4]; rfl
        have zf0 : w9.frozen? ⟨RA, 0, none⟩ = false := heap_frozen HF4 0 (by omega)
        have zf1 : w9.frozen? ⟨RA, 1, none⟩ = false := heap_frozen HF4 1 (by omega)
        have zf2 : w9.frozen? ⟨RA, 2, none⟩ = false := heap_frozen HF4 2 (by omega)
        have zf3 : w9.frozen? ⟨RA, 3, none⟩ = false := heap_frozen HF4 3 (by omega)
        have zf4 : w9.frozen? ⟨RA, 4, none⟩ = false := heap_frozen HF4 4 (by omega)
        have x0 : w9.cell? ⟨RB, 0, none⟩ = some (.int .i64 0) := by rw [heap_cell HF5]; rfl
        have x1 : w9.cell? ⟨RB, 1, none⟩ = some (.slice none 0 0) := by rw [heap_cell HF5]; rfl
        have x2 : w9.cell? ⟨RB, 2, none⟩ = some (.string ⟨#[]⟩) := by rw [heap_cell HF5]; rfl
        have x3 : w9.cell? ⟨RB, 3, none⟩ = some (.string ⟨#[]⟩) := by rw [heap_cell HF5]; rfl
        have x4 : w9.cell? ⟨RB, 4, none⟩ = some (.int .i64 0) := by rw [heap_cell HF5]; rfl
        have xf0 : w9.frozen? ⟨RB, 0, none⟩ = false := heap_frozen HF5 0 (by omega)
        have xf1 : w9.frozen? ⟨RB, 1, none⟩ = false := heap_frozen HF5 1 (by omega)
        have xf2 : w9.frozen? ⟨RB, 2, none⟩ = false := heap_frozen HF5 2 (by omega)
        have xf3 : w9.frozen? ⟨RB, 3, none⟩ = false := heap_frozen HF5 3 (by omega)
        have xf4 : w9.frozen? ⟨RB, 4, none⟩ = false := heap_frozen HF5 4 (by omega)
        replace HF4 := hid HF4
        replace HF5 := hid HF5))
    go_wp2_with fail
    (try simp only [Exit.inBlock, Exit.then])
    have E1 := store10 G9.out (r4 := RA) (r5 := RB) (by omega) (by omega) nAB HF4.out HF5.out (.slice p n cap) (.int .i64 (fin : Int)) (.int .i64 ((at_ : Int) + 1 + 1)) (.int .i64 0) (.int .i64 0) (.int .i64 5) (.slice none 0 0) (.string t.str) (.string ⟨#[]⟩) (.int .i64 v.num)
    refine read_ret (nd := .mk 5 [] t.str ⟨#[]⟩ v.num) (at' := at_ + 1 + 1) (e' := 0) (pos' := 0) rfl rfl rfl (E1.1.trans (by push_cast; rfl)) E1.2.1 E1.2.2 (NodeR.In.leaf _ _ 5 t.str ⟨#[]⟩ v.num) (hnv.out.2 hk0.out) (by omega) ?_
    rw [hnv.out.1, if_pos hk0.out]
    exact ⟨rfl, rfl, rfl, rfl⟩
set_option maxRecDepth 100000 in
set_option maxHeartbeats 8000000 in
theorem RPartBefore (p : Option Addr) (n cap fin at_ dp : Nat) (T : List Tok) (w : World) (hT : TokS w p n cap T) (hat : at_ ≤ T.length) (hd : dp ≤ 32) (t : Tok) (ht : nextK T at_ 0 = t) (hlt : at_ < T.length) (h1 : t.str.toList = [98, 101, 102, 111, 114, 101]) :
    Calls Tryd.prog 37 #[rdV p n cap fin at_ 0 0, .int .i64 (dp : Int)] w (RPost T p n cap fin (nearP fin (t :: T.drop (at_ + 1))) w) := by
  have HT := hid hT
  have hn4 : T.length ≤ 4096 := by rw [← hT.1]; exact hT.cells.1
  unfold rdV
  rw [show ((0 : Nat) : Int) = (0 : Int) from rfl]
  have hd1 : (dp : Int) ≤ 32 := by omega
  have G0 := hid (Grow.trans (Grow.trans (Grow.alloc w (.cells #[.slice p n cap, .int .i64 (fin : Int), .int .i64 (at_ : Int), .int .i64 0, .int .i64 0] 52)) (Grow.alloc _ ReadZ)) (Grow.alloc _ NodeZ))
  have B0 := hid (heap_alloc_keep (heap_alloc_keep (heap_new w (.cells #[.slice p n cap, .int .i64 (fin : Int), .int .i64 (at_ : Int), .int .i64 0, .int .i64 0] 52)) ReadZ) NodeZ)
  have R40 := hid (heap_alloc_keep (heap_newAt (w.alloc (.cells #[.slice p n cap, .int .i64 (fin : Int), .int .i64 (at_ : Int), .int .i64 0, .int .i64 0] 52)) ReadZ (g := w.heap.size + 1) (by simp)) NodeZ)
  have R50 := hid (heap_newAt ((w.alloc (.cells #[.slice p n cap, .int .i64 (fin : Int), .int .i64 (at_ : Int), .int .i64 0, .int .i64 0] 52)).alloc ReadZ) NodeZ (g := w.heap.size + 1 + 1) (by simp))
  have NX := hid (fun (w' : World) (g : Grow w w') => Rnext_c p n cap fin at_ 0 0 T w' (hT.grow g) (by omega) (by omega))
  unfold rdV at NX
  have hd2 : ¬(32 : Int) < dp := by omega
  rw [ht] at NX
  replace ht := hid ht
  clear hT
  go_enter Tryd.func37, Tryd.ntmps37
  go_wp2_with fail
  refine (NX.out _ G0.out).mono ?_
  rintro e w1 ⟨rfl, g1⟩
  unfold tokV
  generalize hH : w.heap.size = H at *
  have hws : w.heap.size ≤ H := Nat.le_of_eq hH
  replace hH := hid hH
  have hA1 : H < H + 1 := by omega
  have hB1 : H + 1 < H + 1 + 1 := by omega
  generalize H + 1 + 1 = RB at *
  generalize H + 1 = RA at *
  have nHA : H ≠ RA := by omega
  have nHB : H ≠ RB := by omega
  have nAB : RA ≠ RB := by omega
  have nAH : RA ≠ H := by omega
  have nBH : RB ≠ H := by omega
  have nBA : RB ≠ RA := by omega
  have G2 := hid ((G0.out.trans g1).trans (Grow.alloc w1 (.cells #[.int .i64 (t.kind : Int), .string t.str, .int .i64 t.num, .int .i64 (t.pos : Int)] 54)))
  have HB := hid (heap_alloc_keep (g1.heap B0.out) (.cells #[.int .i64 (t.kind : Int), .string t.str, .int .i64 t.num, .int .i64 (t.pos : Int)] 54))
  have RA2 := hid (heap_alloc_keep (g1.heap R40.out) (.cells #[.int .i64 (t.kind : Int), .string t.str, .int .i64 t.num, .int .i64 (t.pos : Int)] 54))
  have RB2 := hid (heap_alloc_keep (g1.heap R50.out) (.cells #[.int .i64 (t.kind : Int), .string t.str, .int .i64 t.num, .int .i64 (t.pos : Int)] 54))
  have TB := hid (heap_new w1 (.cells #[.int .i64 (t.kind : Int), .string t.str, .int .i64 t.num, .int .i64 (t.pos : Int)] 54))
  have hz1 := heap_lt (g1.heap R50.out)
  clear g1 G0 B0 R40 R50 NX
  go_upto_region 4 with fail
  generalize w1.alloc (.cells #[.int .i64 (t.kind : Int), .string t.str, .int .i64 t.num, .int .i64 (t.pos : Int)] 54) = w2 at *
  generalize w1.heap.size = tb at *
  have b0 : w2.cell? ⟨H, 0, none⟩ = some (.slice p n cap) := by rw [heap_cell HB.out]; rfl
  have b1 : w2.cell? ⟨H, 1, none⟩ = some (.int .i64 (fin : Int)) := by rw [heap_cell HB.out]; rfl
  have b2 : w2.cell? ⟨H, 2, none⟩ = some (.int .i64 (at_ : Int)) := by rw [heap_cell HB.out]; rfl
  have b3 : w2.cell? ⟨H, 3, none⟩ = some (.int .i64 0) := by rw [heap_cell HB.out]; rfl
  have b4 : w2.cell? ⟨H, 4, none⟩ = some (.int .i64 0) := by rw [heap_cell HB.out]; rfl
  have u0 : w2.cell? ⟨tb, 0, none⟩ = some (.int .i64 (t.kind : Int)) := by rw [heap_cell TB.out]; rfl
  have u1 : w2.cell? ⟨tb, 1, none⟩ = some (.string t.str) := by rw [heap_cell TB.out]; rfl
  have u2 : w2.cell? ⟨tb, 2, none⟩ = some (.int .i64 t.num) := by rw [heap_cell TB.out]; rfl
  have u3 : w2.cell? ⟨tb, 3, none⟩ = some (.int .i64 (t.pos : Int)) := by rw [heap_cell TB.out]; rfl
  have nTA : tb ≠ RA := by omega
  have nTB : tb ≠ RB := by omega
  have nAT : RA ≠ tb := by omega
  have nBT : RB ≠ tb := by omega
  have hzt := heap_lt TB.out
  have hzH := heap_lt HB.out
  have ON := hid (Ron_c p n cap fin at_ 0 0 w2 (by omega))
  unfold rdV at ON
  go_wp2_with fail
  refine ON.out.mono ?_
  rintro e w3 ⟨rfl, g3⟩
  have HH3 := g3.heap HB.out
  have RA3 := g3.heap RA2.out
  have RB3 := g3.heap RB2.out
  have TB3 := g3.heap TB.out
  have nTH : tb ≠ H := by omega
  have Z := set5 (G2.out.trans g3) hws HH3 (.slice p n cap) (.int .i64 (fin : Int)) (.int .i64 ((at_ : Int) + 1)) (.int .i64 0) (.int .i64 0)
  have RA4 := hid (Z.2.2.1 RA _ nAH RA3)
  have RB4 := hid (Z.2.2.1 RB _ nBH RB3)
  have TB4 := hid (Z.2.2.1 tb _ nTH TB3)
  have HH4 := hid Z.1
  have G4 := hid Z.2.1
  clear b0 b1 b2 b3 b4 u0 u1 u2 u3 ON
  have b0 : w3.cell? ⟨H, 0, none⟩ = some (.slice p n cap) := by rw [heap_cell HH3]; rfl
  have b1 : w3.cell? ⟨H, 1, none⟩ = some (.int .i64 (fin : Int)) := by rw [heap_cell HH3]; rfl
  have b2 : w3.cell? ⟨H, 2, none⟩ = some (.int .i64 (at_ : Int)) := by rw [heap_cell HH3]; rfl
  have b3 : w3.cell? ⟨H, 3, none⟩ = some (.int .i64 0) := by rw [heap_cell HH3]; rfl
  have b4 : w3.cell? ⟨H, 4, none⟩ = some (.int .i64 0) := by rw [heap_cell HH3]; rfl
  have y0 : w3.frozen? ⟨H, 0, none⟩ = false := heap_frozen HH3 0 (by omega)
  have y1 : w3.frozen? ⟨H, 1, none⟩ = false := heap_frozen HH3 1 (by omega)
  have y2 : w3.frozen? ⟨H, 2, none⟩ = false := heap_frozen HH3 2 (by omega)
  have y3 : w3.frozen? ⟨H, 3, none⟩ = false := heap_frozen HH3 3 (by omega)
  have y4 : w3.frozen? ⟨H, 4, none⟩ = false := heap_frozen HH3 4 (by omega)
  have hzH3 := heap_lt HH3
  clear HH3 RA3 RB3 TB3 Z g3
  go_upto_region 16 with fail
  clear b0 b1 b2 b3 b4 y0 y1 y2 y3 y4
  generalize (((((w3.setCell ⟨H, 0, none⟩ (.slice p n cap)).setCell ⟨H, 1, none⟩ (.int .i64 (fin : Int))).setCell ⟨H, 2, none⟩ (.int .i64 ((at_ : Int) + 1))).setCell ⟨H, 3, none⟩ (.int .i64 0)).setCell ⟨H, 4, none⟩ (.int .i64 0)) = w4 at *
  have b0 : w4.cell? ⟨H, 0, none⟩ = some (.slice p n cap) := by rw [heap_cell HH4.out]; rfl
  have b1 : w4.cell? ⟨H, 1, none⟩ = some (.int .i64 (fin : Int)) := by rw [heap_cell HH4.out]; rfl
  have b2 : w4.cell? ⟨H, 2, none⟩ = some (.int .i64 ((at_ : Int) + 1)) := by rw [heap_cell HH4.out]; rfl
  have b3 : w4.cell? ⟨H, 3, none⟩ = some (.int .i64 0) := by rw [heap_cell HH4.out]; rfl
  have b4 : w4.cell? ⟨H, 4, none⟩ = some (.int .i64 0) := by rw [heap_cell HH4.out]; rfl
  have NXT := Rnext_c p n cap fin (at_ + 1) 0 0 T w4 (HT.out.grow G4.out) (by omega) (by omega)
  unfold rdV at NXT
  rw [show ((at_ + 1 : Nat) : Int) = (at_ : Int) + 1 from by omega] at NXT
  have hnv := hid (nearR_eq fin t T at_)
  generalize nextK T (at_ + 1) 0 = v at *
  replace NXT := hid NXT
  have hzH4 := heap_lt HH4.out
  go_wp2_with fail
  refine NXT.out.mono ?_
  rintro e w5 ⟨rfl, g5⟩
  unfold tokV
  have G6 := hid ((G4.out.trans g5).trans (Grow.alloc w5 (.cells #[.int .i64 (v.kind : Int), .string v.str, .int .i64 v.num, .int .i64 (v.pos : Int)] 54)))
  have RA6 := hid (heap_alloc_keep (g5.heap RA4.out) (.cells #[.int .i64 (v.kind : Int), .string v.str, .int .i64 v.num, .int .i64 (v.pos : Int)] 54))
  have RB6 := hid (heap_alloc_keep (g5.heap RB4.out) (.cells #[.int .i64 (v.kind : Int), .string v.str, .int .i64 v.num, .int .i64 (v.pos : Int)] 54))
  have TB6 := hid (heap_alloc_keep (g5.heap TB4.out) (.cells #[.int .i64 (v.kind : Int), .string v.str, .int .i64 v.num, .int .i64 (v.pos : Int)] 54))
  have HH6 := hid (heap_alloc_keep (g5.heap HH4.out) (.cells #[.int .i64 (v.kind : Int), .string v.str, .int .i64 v.num, .int .i64 (v.pos : Int)] 54))
  have VB6 := hid (heap_new w5 (.cells #[.int .i64 (v.kind : Int), .string v.str, .int .i64 v.num, .int .i64 (v.pos : Int)] 54))
  have hs5 : RB < w5.heap.size := heap_lt (g5.heap RB4.out)
  clear b0 b1 b2 b3 b4 g5 NXT
  go_upto_region 17 with fail
  generalize w5.alloc (.cells #[.int .i64 (v.kind : Int), .string v.str, .int .i64 v.num, .int .i64 (v.pos : Int)] 54) = w6 at *
  generalize w5.heap.size = tk at *
  have u0 : w6.cell? ⟨tk, 0, none⟩ = some (.int .i64 (v.kind : Int)) := by rw [heap_cell VB6.out]; rfl
  have u1 : w6.cell? ⟨tk, 1, none⟩ = some (.string v.str) := by rw [heap_cell VB6.out]; rfl
  have u2 : w6.cell? ⟨tk, 2, none⟩ = some (.int .i64 v.num) := by rw [heap_cell VB6.out]; rfl
  have u3 : w6.cell? ⟨tk, 3, none⟩ = some (.int .i64 (v.pos : Int)) := by rw [heap_cell VB6.out]; rfl
  have b0 : w6.cell? ⟨H, 0, none⟩ = some (.slice p n cap) := by rw [heap_cell HH6.out]; rfl
  have b1 : w6.cell? ⟨H, 1, none⟩ = some (.int .i64 (fin : Int)) := by rw [heap_cell HH6.out]; rfl
  have b2 : w6.cell? ⟨H, 2, none⟩ = some (.int .i64 ((at_ : Int) + 1)) := by rw [heap_cell HH6.out]; rfl
  have b3 : w6.cell? ⟨H, 3, none⟩ = some (.int .i64 0) := by rw [heap_cell HH6.out]; rfl
  have b4 : w6.cell? ⟨H, 4, none⟩ = some (.int .i64 0) := by rw [heap_cell HH6.out]; rfl
  have hzk := heap_lt VB6.out
  have nVA : tk ≠ RA := by omega
  have nVB : tk ≠ RB := by omega
  have nAV : RA ≠ tk := by omega
  have nBV : RB ≠ tk := by omega
  have hzH6 := heap_lt HH6.out
  by_cases hk : v.kind = 2
  rotate_left
  · have k1 : ((v.kind : Int) != 2) = true := by simp; omega
    have FN := RfailNew_c p n cap fin (at_ + 1) 0 41 T w6 (HT.out.grow G6.out) (by omega)
    unfold rdV at FN
    rw [show ((at_ + 1 : Nat) : Int) = (at_ : Int) + 1 from by omega] at FN
    replace FN := hid FN
    replace hk := hid hk
    go_wp2_with fail
    refine FN.out.mono ?_
    rintro e w7 ⟨rfl, g7⟩
    have RA7 := g7.heap RA6.out
    have RB7 := g7.heap RB6.out
    have E := hid (store10 (G6.out.trans g7) (r4 := RA) (r5 := RB) (by omega) (by omega) nAB RA7 RB7 (.slice p n cap) (.int .i64 (fin : Int)) (.int .i64 ((at_ : Int) + 1)) (.int .i64 ((failE 41 (T.drop (at_ + 1)) : Nat) : Int)) (.int .i64 ((failAt fin (T.drop (at_ + 1)) : Nat) : Int)) (.int .i64 0) (.slice none 0 0) (.string ⟨#[]⟩) (.string ⟨#[]⟩) (.int .i64 0))
    have z0 : w7.cell? ⟨RA, 0, none⟩ = some (.slice none 0 0) := by rw [heap_cell RA7]; rfl
    have z1 : w7.cell? ⟨RA, 1, none⟩ = some (.int .i64 0) := by rw [heap_cell RA7]; rfl
    have z2 : w7.cell? ⟨RA, 2, none⟩ = some (.int .i64 0) := by rw [heap_cell RA7]; rfl
    have z3 : w7.cell? ⟨RA, 3, none⟩ = some (.int .i64 0) := by rw [heap_cell RA7]; rfl
    have z4 : w7.cell? ⟨RA, 4, none⟩ = some (.int .i64 0) := by rw [heap_cell RA7]; rfl
    have zf0 : w7.frozen? ⟨RA, 0, none⟩ = false := heap_frozen RA7 0 (by omega)
    have zf1 : w7.frozen? ⟨RA, 1, none⟩ = false := heap_frozen RA7 1 (by omega)
    have zf2 : w7.frozen? ⟨RA, 2, none⟩ = false := heap_frozen RA7 2 (by omega)
    have zf3 : w7.frozen? ⟨RA, 3, none⟩ = false := heap_frozen RA7 3 (by omega)
    have zf4 : w7.frozen? ⟨RA, 4, none⟩ = false := heap_frozen RA7 4 (by omega)
    have x0 : w7.cell? ⟨RB, 0, none⟩ = some (.int .i64 0) := by rw [heap_cell RB7]; rfl
    have x1 : w7.cell? ⟨RB, 1, none⟩ = some (.slice none 0 0) := by rw [heap_cell RB7]; rfl
    have x2 : w7.cell? ⟨RB, 2, none⟩ = some (.string ⟨#[]⟩) := by rw [heap_cell RB7]; rfl
    have x3 : w7.cell? ⟨RB, 3, none⟩ = some (.string ⟨#[]⟩) := by rw [heap_cell RB7]; rfl
    have x4 : w7.cell? ⟨RB, 4, none⟩ = some (.int .i64 0) := by rw [heap_cell RB7]; rfl
    have xf0 : w7.frozen? ⟨RB, 0, none⟩ = false := heap_frozen RB7 0 (by omega)
    have xf1 : w7.frozen? ⟨RB, 1, none⟩ = false := heap_frozen RB7 1 (by omega)
    have xf2 : w7.frozen? ⟨RB, 2, none⟩ = false := heap_frozen RB7 2 (by omega)
    have xf3 : w7.frozen? ⟨RB, 3, none⟩ = false := heap_frozen RB7 3 (by omega)
    have xf4 : w7.frozen? ⟨RB, 4, none⟩ = false := heap_frozen RB7 4 (by omega)
    clear RA7 RB7 g7 FN b0 b1 b2 b3 b4 u0 u1 u2 u3
    go_wp2_with fail
    (try simp only [Exit.inBlock, Exit.then])
    have E1 := E.out
    have hF := failE_ne 41 (T.drop (at_ + 1)) (by omega) (by omega)
    refine read_ret (nd := .zero) (at' := at_ + 1) rfl rfl rfl (E1.1.trans (by push_cast; rfl)) E1.2.1 E1.2.2 (NodeR.In.leaf _ _ 0 ⟨#[]⟩ ⟨#[]⟩ 0) (by omega) hF.2 ?_
    rw [hnv.out.1, if_neg hk.out]
    exact ⟨rfl, rfl, hF.1⟩
  · have k1 : ((v.kind : Int) != 2) = false := by simp; omega
    have ON2 := fun (w' : World) => Ron_c p n cap fin (at_ + 1) 0 0 w' (by omega)
    unfold rdV at ON2
    rw [show ((at_ + 1 : Nat) : Int) = (at_ : Int) + 1 from by omega] at ON2
    replace ON2 := hid ON2
    have hk0 := hid hk
    clear hk
    go_wp2_with fail
    clear b0 b1 b2 b3 b4 u0 u1 u2 u3
    have hc10 : w6.cell? ⟨H, 0, none⟩ = some (.slice p n cap) ∧ w6.cell? ⟨H, 1, none⟩ = some (.int .i64 (fin : Int)) ∧ w6.cell? ⟨H, 2, none⟩ = some (.int .i64 ((at_ : Int) + 1)) ∧ w6.cell? ⟨H, 3, none⟩ = some (.int .i64 0) ∧ w6.cell? ⟨H, 4, none⟩ = some (.int .i64 0) ∧ w6.cell? ⟨tb, 1, none⟩ = some (.string t.str) ∧ w6.cell? ⟨tk, 2, none⟩ = some (.int .i64 v.num) ∧ w6.cell? ⟨tk, 1, none⟩ = some (.string v.str) ∧ w6.cell? ⟨tk, 0, none⟩ = some (.int .i64 (v.kind : Int)) ∧ w6.cell? ⟨tk, 3, none⟩ = some (.int .i64 (v.pos : Int)) := ⟨by rw [heap_cell HH6.out]; rfl, by rw [heap_cell HH6.out]; rfl, by rw [heap_cell HH6.out]; rfl, by rw [heap_cell HH6.out]; rfl, by rw [heap_cell HH6.out]; rfl, by rw [heap_cell TB6.out]; rfl, by rw [heap_cell VB6.out]; rfl, by rw [heap_cell VB6.out]; rfl, by rw [heap_cell VB6.out]; rfl, by rw [heap_cell VB6.out]; rfl⟩
    go_region_held3 (fun w' => w'.cell? ⟨H, 0, none⟩ = some (.slice p n cap) ∧ w'.cell? ⟨H, 1, none⟩ = some (.int .i64 (fin : Int)) ∧ w'.cell? ⟨H, 2, none⟩ = some (.int .i64 ((at_ : Int) + 1)) ∧ w'.cell? ⟨H, 3, none⟩ = some (.int .i64 0) ∧ w'.cell? ⟨H, 4, none⟩ = some (.int .i64 0) ∧ w'.cell? ⟨tb, 1, none⟩ = some (.string t.str) ∧ w'.cell? ⟨tk, 2, none⟩ = some (.int .i64 v.num) ∧ w'.cell? ⟨tk, 1, none⟩ = some (.string v.str) ∧ w'.cell? ⟨tk, 0, none⟩ = some (.int .i64 (v.kind : Int)) ∧ w'.cell? ⟨tk, 3, none⟩ = some (.int .i64 (v.pos : Int)))
      (first | (with_reducible exact keep10 hc10 (Grow.trans (Grow.drew _) (by assumption))) | go_keep)
      ((go_at_call 21
        refine (ON2.out _).mono ?_
        rintro e w9 ⟨rfl, g9⟩
        have HF4 := ((Grow.drew _).trans g9).heap RA6.out
        have HF5 := ((Grow.drew _).trans g9).heap RB6.out
        have G9 := hid ((G6.out.trans (Grow.drew _)).trans g9)
        have gg9 := hid ((Grow.drew w6).trans g9)
        obtain ⟨kk0, kk1, kk2, kk3, kk4, kk5, kk6, kk7, kk8, kk9⟩ := keep10 hc10 ((Grow.drew _).trans g9)
        have z0 : w9.cell? ⟨RA, 0, none⟩ = some (.slice none 0 0) := by rw [heap_cell HF4]; rfl
        have z1 : w9.cell? ⟨RA, 1, none⟩ = some (.int .i64 0) := by rw [heap_cell HF4]; rfl
        have z2 : w9.cell? ⟨RA, 2, none⟩ = some (.int .i64 0) := by rw [heap_cell HF4]; rfl
        have z3 : w9.cell? ⟨RA, 3, none⟩ = some (.int .i64 0) := by rw [heap_cell HF4]; rfl
        have z4 : w9.cell? ⟨RA, 4, none⟩ = some (.int .i64 0) := by rw [heap_cell HF4]; rfl
        have zf0 : w9.frozen? ⟨RA, 0, none⟩ = false := heap_frozen HF4 0 (by omega)
        have zf1 : w9.frozen? ⟨RA, 1, none⟩ = false := heap_frozen HF4 1 (by omega)
        have zf2 : w9.frozen? ⟨RA, 2, none⟩ = false := heap_frozen HF4 2 (by omega)
        have zf3 : w9.frozen? ⟨RA, 3, none⟩ = false := heap_frozen HF4 3 (by omega)
        have zf4 : w9.frozen? ⟨RA, 4, none⟩ = false := heap_frozen HF4 4 (by omega)
        have x0 : w9.cell? ⟨RB, 0, none⟩ = some (.int .i64 0) := by rw [heap_cell HF5]; rfl
        have x1 : w9.cell? ⟨RB, 1, none⟩ = some (.slice none 0 0) := by rw [heap_cell HF5]; rfl
        have x2 : w9.cell? ⟨RB, 2, none⟩ = some (.string ⟨#[]⟩) := by rw [heap_cell HF5]; rfl
        have x3 : w9.cell? ⟨RB, 3, none⟩ = some (.string ⟨#[]⟩) := by rw [heap_cell HF5]; rfl
        have x4 : w9.cell? ⟨RB, 4, none⟩ = some (.int .i64 0) := by rw [heap_cell HF5]; rfl
        have xf0 : w9.frozen? ⟨RB, 0, none⟩ = false := heap_frozen HF5 0 (by omega)
        have xf1 : w9.frozen? ⟨RB, 1, none⟩ = false := heap_frozen HF5 1 (by omega)
        have xf2 : w9.frozen? ⟨RB, 2, none⟩ = false := heap_frozen HF5 2 (by omega)
        have xf3 : w9.frozen? ⟨RB, 3, none⟩ = false := heap_frozen HF5 3 (by omega)
        have xf4 : w9.frozen? ⟨RB, 4, none⟩ = false := heap_frozen HF5 4 (by omega)
        replace HF4 := hid HF4
        replace HF5 := hid HF5))
    go_wp2_with fail
    (try simp only [Exit.inBlock, Exit.then])
    have E1 := store10 G9.out (r4 := RA) (r5 := RB) (by omega) (by omega) nAB HF4.out HF5.out (.slice p n cap) (.int .i64 (fin : Int)) (.int .i64 ((at_ : Int) + 1 + 1)) (.int .i64 0) (.int .i64 0) (.int .i64 5) (.slice none 0 0) (.string t.str) (.string ⟨#[]⟩) (.int .i64 v.num)
    refine read_ret (nd := .mk 5 [] t.str ⟨#[]⟩ v.num) (at' := at_ + 1 + 1) (e' := 0) (pos' := 0) rfl rfl rfl (E1.1.trans (by push_cast; rfl)) E1.2.1 E1.2.2 (NodeR.In.leaf _ _ 5 t.str ⟨#[]⟩ v.num) (hnv.out.2 hk0.out) (by omega) ?_
    rw [hnv.out.1, if_pos hk0.out]
    exact ⟨rfl, rfl, rfl, rfl⟩
set_option maxRecDepth 100000 in
set_option maxHeartbeats 8000000 in
theorem RPartAfter (p : Option Addr) (n cap fin at_ dp : Nat) (T : List Tok) (w : World) (hT : TokS w p n cap T) (hat : at_ ≤ T.length) (hd : dp ≤ 32) (t : Tok) (ht : nextK T at_ 0 = t) (hlt : at_ < T.length) (h1 : t.str.toList = [97, 102, 116, 101, 114]) :
    Calls Tryd.prog 37 #[rdV p n cap fin at_ 0 0, .int .i64 (dp : Int)] w (RPost T p n cap fin (nearP fin (t :: T.drop (at_ + 1))) w) := by
  have HT := hid hT
  have hn4 : T.length ≤ 4096 := by rw [← hT.1]; exact hT.cells.1
  unfold rdV
  rw [show ((0 : Nat) : Int) = (0 : Int) from rfl]
  have hd1 : (dp : Int) ≤ 32 := by omega
  have G0 := hid (Grow.trans (Grow.trans (Grow.alloc w (.cells #[.slice p n cap, .int .i64 (fin : Int), .int .i64 (at_ : Int), .int .i64 0, .int .i64 0] 52)) (Grow.alloc _ ReadZ)) (Grow.alloc _ NodeZ))
  have B0 := hid (heap_alloc_keep (heap_alloc_keep (heap_new w (.cells #[.slice p n cap, .int .i64 (fin : Int), .int .i64 (at_ : Int), .int .i64 0, .int .i64 0] 52)) ReadZ) NodeZ)
  have R40 := hid (heap_alloc_keep (heap_newAt (w.alloc (.cells #[.slice p n cap, .int .i64 (fin : Int), .int .i64 (at_ : Int), .int .i64 0, .int .i64 0] 52)) ReadZ (g := w.heap.size + 1) (by simp)) NodeZ)
  have R50 := hid (heap_newAt ((w.alloc (.cells #[.slice p n cap, .int .i64 (fin : Int), .int .i64 (at_ : Int), .int .i64 0, .int .i64 0] 52)).alloc ReadZ) NodeZ (g := w.heap.size + 1 + 1) (by simp))
  have NX := hid (fun (w' : World) (g : Grow w w') => Rnext_c p n cap fin at_ 0 0 T w' (hT.grow g) (by omega) (by omega))
  unfold rdV at NX
  have hd2 : ¬(32 : Int) < dp := by omega
  rw [ht] at NX
  replace ht := hid ht
  clear hT
  go_enter Tryd.func37, Tryd.ntmps37
  go_wp2_with fail
  refine (NX.out _ G0.out).mono ?_
  rintro e w1 ⟨rfl, g1⟩
  unfold tokV
  generalize hH : w.heap.size = H at *
  have hws : w.heap.size ≤ H := Nat.le_of_eq hH
  replace hH := hid hH
  have hA1 : H < H + 1 := by omega
  have hB1 : H + 1 < H + 1 + 1 := by omega
  generalize H + 1 + 1 = RB at *
  generalize H + 1 = RA at *
  have nHA : H ≠ RA := by omega
  have nHB : H ≠ RB := by omega
  have nAB : RA ≠ RB := by omega
  have nAH : RA ≠ H := by omega
  have nBH : RB ≠ H := by omega
  have nBA : RB ≠ RA := by omega
  have G2 := hid ((G0.out.trans g1).trans (Grow.alloc w1 (.cells #[.int .i64 (t.kind : Int), .string t.str, .int .i64 t.num, .int .i64 (t.pos : Int)] 54)))
  have HB := hid (heap_alloc_keep (g1.heap B0.out) (.cells #[.int .i64 (t.kind : Int), .string t.str, .int .i64 t.num, .int .i64 (t.pos : Int)] 54))
  have RA2 := hid (heap_alloc_keep (g1.heap R40.out) (.cells #[.int .i64 (t.kind : Int), .string t.str, .int .i64 t.num, .int .i64 (t.pos : Int)] 54))
  have RB2 := hid (heap_alloc_keep (g1.heap R50.out) (.cells #[.int .i64 (t.kind : Int), .string t.str, .int .i64 t.num, .int .i64 (t.pos : Int)] 54))
  have TB := hid (heap_new w1 (.cells #[.int .i64 (t.kind : Int), .string t.str, .int .i64 t.num, .int .i64 (t.pos : Int)] 54))
  have hz1 := heap_lt (g1.heap R50.out)
  clear g1 G0 B0 R40 R50 NX
  go_upto_region 4 with fail
  generalize w1.alloc (.cells #[.int .i64 (t.kind : Int), .string t.str, .int .i64 t.num, .int .i64 (t.pos : Int)] 54) = w2 at *
  generalize w1.heap.size = tb at *
  have b0 : w2.cell? ⟨H, 0, none⟩ = some (.slice p n cap) := by rw [heap_cell HB.out]; rfl
  have b1 : w2.cell? ⟨H, 1, none⟩ = some (.int .i64 (fin : Int)) := by rw [heap_cell HB.out]; rfl
  have b2 : w2.cell? ⟨H, 2, none⟩ = some (.int .i64 (at_ : Int)) := by rw [heap_cell HB.out]; rfl
  have b3 : w2.cell? ⟨H, 3, none⟩ = some (.int .i64 0) := by rw [heap_cell HB.out]; rfl
  have b4 : w2.cell? ⟨H, 4, none⟩ = some (.int .i64 0) := by rw [heap_cell HB.out]; rfl
  have u0 : w2.cell? ⟨tb, 0, none⟩ = some (.int .i64 (t.kind : Int)) := by rw [heap_cell TB.out]; rfl
  have u1 : w2.cell? ⟨tb, 1, none⟩ = some (.string t.str) := by rw [heap_cell TB.out]; rfl
  have u2 : w2.cell? ⟨tb, 2, none⟩ = some (.int .i64 t.num) := by rw [heap_cell TB.out]; rfl
  have u3 : w2.cell? ⟨tb, 3, none⟩ = some (.int .i64 (t.pos : Int)) := by rw [heap_cell TB.out]; rfl
  have nTA : tb ≠ RA := by omega
  have nTB : tb ≠ RB := by omega
  have nAT : RA ≠ tb := by omega
  have nBT : RB ≠ tb := by omega
  have hzt := heap_lt TB.out
  have hzH := heap_lt HB.out
  have ON := hid (Ron_c p n cap fin at_ 0 0 w2 (by omega))
  unfold rdV at ON
  go_wp2_with fail
  refine ON.out.mono ?_
  rintro e w3 ⟨rfl, g3⟩
  have HH3 := g3.heap HB.out
  have RA3 := g3.heap RA2.out
  have RB3 := g3.heap RB2.out
  have TB3 := g3.heap TB.out
  have nTH : tb ≠ H := by omega
  have Z := set5 (G2.out.trans g3) hws HH3 (.slice p n cap) (.int .i64 (fin : Int)) (.int .i64 ((at_ : Int) + 1)) (.int .i64 0) (.int .i64 0)
  have RA4 := hid (Z.2.2.1 RA _ nAH RA3)
  have RB4 := hid (Z.2.2.1 RB _ nBH RB3)
  have TB4 := hid (Z.2.2.1 tb _ nTH TB3)
  have HH4 := hid Z.1
  have G4 := hid Z.2.1
  clear b0 b1 b2 b3 b4 u0 u1 u2 u3 ON
  have b0 : w3.cell? ⟨H, 0, none⟩ = some (.slice p n cap) := by rw [heap_cell HH3]; rfl
  have b1 : w3.cell? ⟨H, 1, none⟩ = some (.int .i64 (fin : Int)) := by rw [heap_cell HH3]; rfl
  have b2 : w3.cell? ⟨H, 2, none⟩ = some (.int .i64 (at_ : Int)) := by rw [heap_cell HH3]; rfl
  have b3 : w3.cell? ⟨H, 3, none⟩ = some (.int .i64 0) := by rw [heap_cell HH3]; rfl
  have b4 : w3.cell? ⟨H, 4, none⟩ = some (.int .i64 0) := by rw [heap_cell HH3]; rfl
  have y0 : w3.frozen? ⟨H, 0, none⟩ = false := heap_frozen HH3 0 (by omega)
  have y1 : w3.frozen? ⟨H, 1, none⟩ = false := heap_frozen HH3 1 (by omega)
  have y2 : w3.frozen? ⟨H, 2, none⟩ = false := heap_frozen HH3 2 (by omega)
  have y3 : w3.frozen? ⟨H, 3, none⟩ = false := heap_frozen HH3 3 (by omega)
  have y4 : w3.frozen? ⟨H, 4, none⟩ = false := heap_frozen HH3 4 (by omega)
  have hzH3 := heap_lt HH3
  clear HH3 RA3 RB3 TB3 Z g3
  go_upto_region 16 with fail
  clear b0 b1 b2 b3 b4 y0 y1 y2 y3 y4
  generalize (((((w3.setCell ⟨H, 0, none⟩ (.slice p n cap)).setCell ⟨H, 1, none⟩ (.int .i64 (fin : Int))).setCell ⟨H, 2, none⟩ (.int .i64 ((at_ : Int) + 1))).setCell ⟨H, 3, none⟩ (.int .i64 0)).setCell ⟨H, 4, none⟩ (.int .i64 0)) = w4 at *
  have b0 : w4.cell? ⟨H, 0, none⟩ = some (.slice p n cap) := by rw [heap_cell HH4.out]; rfl
  have b1 : w4.cell? ⟨H, 1, none⟩ = some (.int .i64 (fin : Int)) := by rw [heap_cell HH4.out]; rfl
  have b2 : w4.cell? ⟨H, 2, none⟩ = some (.int .i64 ((at_ : Int) + 1)) := by rw [heap_cell HH4.out]; rfl
  have b3 : w4.cell? ⟨H, 3, none⟩ = some (.int .i64 0) := by rw [heap_cell HH4.out]; rfl
  have b4 : w4.cell? ⟨H, 4, none⟩ = some (.int .i64 0) := by rw [heap_cell HH4.out]; rfl
  have NXT := Rnext_c p n cap fin (at_ + 1) 0 0 T w4 (HT.out.grow G4.out) (by omega) (by omega)
  unfold rdV at NXT
  rw [show ((at_ + 1 : Nat) : Int) = (at_ : Int) + 1 from by omega] at NXT
  have hnv := hid (nearR_eq fin t T at_)
  generalize nextK T (at_ + 1) 0 = v at *
  replace NXT := hid NXT
  have hzH4 := heap_lt HH4.out
  go_wp2_with fail
  refine NXT.out.mono ?_
  rintro e w5 ⟨rfl, g5⟩
  unfold tokV
  have G6 := hid ((G4.out.trans g5).trans (Grow.alloc w5 (.cells #[.int .i64 (v.kind : Int), .string v.str, .int .i64 v.num, .int .i64 (v.pos : Int)] 54)))
  have RA6 := hid (heap_alloc_keep (g5.heap RA4.out) (.cells #[.int .i64 (v.kind : Int), .string v.str, .int .i64 v.num, .int .i64 (v.pos : Int)] 54))
  have RB6 := hid (heap_alloc_keep (g5.heap RB4.out) (.cells #[.int .i64 (v.kind : Int), .string v.str, .int .i64 v.num, .int .i64 (v.pos : Int)] 54))
  have TB6 := hid (heap_alloc_keep (g5.heap TB4.out) (.cells #[.int .i64 (v.kind : Int), .string v.str, .int .i64 v.num, .int .i64 (v.pos : Int)] 54))
  have HH6 := hid (heap_alloc_keep (g5.heap HH4.out) (.cells #[.int .i64 (v.kind : Int), .string v.str, .int .i64 v.num, .int .i64 (v.pos : Int)] 54))
  have VB6 := hid (heap_new w5 (.cells #[.int .i64 (v.kind : Int), .string v.str, .int .i64 v.num, .int .i64 (v.pos : Int)] 54))
  have hs5 : RB < w5.heap.size := heap_lt (g5.heap RB4.out)
  clear b0 b1 b2 b3 b4 g5 NXT
  go_upto_region 17 with fail
  generalize w5.alloc (.cells #[.int .i64 (v.kind : Int), .string v.str, .int .i64 v.num, .int .i64 (v.pos : Int)] 54) = w6 at *
  generalize w5.heap.size = tk at *
  have u0 : w6.cell? ⟨tk, 0, none⟩ = some (.int .i64 (v.kind : Int)) := by rw [heap_cell VB6.out]; rfl
  have u1 : w6.cell? ⟨tk, 1, none⟩ = some (.string v.str) := by rw [heap_cell VB6.out]; rfl
  have u2 : w6.cell? ⟨tk, 2, none⟩ = some (.int .i64 v.num) := by rw [heap_cell VB6.out]; rfl
  have u3 : w6.cell? ⟨tk, 3, none⟩ = some (.int .i64 (v.pos : Int)) := by rw [heap_cell VB6.out]; rfl
  have b0 : w6.cell? ⟨H, 0, none⟩ = some (.slice p n cap) := by rw [heap_cell HH6.out]; rfl
  have b1 : w6.cell? ⟨H, 1, none⟩ = some (.int .i64 (fin : Int)) := by rw [heap_cell HH6.out]; rfl
  have b2 : w6.cell? ⟨H, 2, none⟩ = some (.int .i64 ((at_ : Int) + 1)) := by rw [heap_cell HH6.out]; rfl
  have b3 : w6.cell? ⟨H, 3, none⟩ = some (.int .i64 0) := by rw [heap_cell HH6.out]; rfl
  have b4 : w6.cell? ⟨H, 4, none⟩ = some (.int .i64 0) := by rw [heap_cell HH6.out]; rfl
  have hzk := heap_lt VB6.out
  have nVA : tk ≠ RA := by omega
  have nVB : tk ≠ RB := by omega
  have nAV : RA ≠ tk := by omega
  have nBV : RB ≠ tk := by omega
  have hzH6 := heap_lt HH6.out
  by_cases hk : v.kind = 2
  rotate_left
  · have k1 : ((v.kind : Int) != 2) = true := by simp; omega
    have FN := RfailNew_c p n cap fin (at_ + 1) 0 41 T w6 (HT.out.grow G6.out) (by omega)
    unfold rdV at FN
    rw [show ((at_ + 1 : Nat) : Int) = (at_ : Int) + 1 from by omega] at FN
    replace FN := hid FN
    replace hk := hid hk
    go_wp2_with fail
    refine FN.out.mono ?_
    rintro e w7 ⟨rfl, g7⟩
    have RA7 := g7.heap RA6.out
    have RB7 := g7.heap RB6.out
    have E := hid (store10 (G6.out.trans g7) (r4 := RA) (r5 := RB) (by omega) (by omega) nAB RA7 RB7 (.slice p n cap) (.int .i64 (fin : Int)) (.int .i64 ((at_ : Int) + 1)) (.int .i64 ((failE 41 (T.drop (at_ + 1)) : Nat) : Int)) (.int .i64 ((failAt fin (T.drop (at_ + 1)) : Nat) : Int)) (.int .i64 0) (.slice none 0 0) (.string ⟨#[]⟩) (.string ⟨#[]⟩) (.int .i64 0))
    have z0 : w7.cell? ⟨RA, 0, none⟩ = some (.slice none 0 0) := by rw [heap_cell RA7]; rfl
    have z1 : w7.cell? ⟨RA, 1, none⟩ = some (.int .i64 0) := by rw [heap_cell RA7]; rfl
    have z2 : w7.cell? ⟨RA, 2, none⟩ = some (.int .i64 0) := by rw [heap_cell RA7]; rfl
    have z3 : w7.cell? ⟨RA, 3, none⟩ = some (.int .i64 0) := by rw [heap_cell RA7]; rfl
    have z4 : w7.cell? ⟨RA, 4, none⟩ = some (.int .i64 0) := by rw [heap_cell RA7]; rfl
    have zf0 : w7.frozen? ⟨RA, 0, none⟩ = false := heap_frozen RA7 0 (by omega)
    have zf1 : w7.frozen? ⟨RA, 1, none⟩ = false := heap_frozen RA7 1 (by omega)
    have zf2 : w7.frozen? ⟨RA, 2, none⟩ = false := heap_frozen RA7 2 (by omega)
    have zf3 : w7.frozen? ⟨RA, 3, none⟩ = false := heap_frozen RA7 3 (by omega)
    have zf4 : w7.frozen? ⟨RA, 4, none⟩ = false := heap_frozen RA7 4 (by omega)
    have x0 : w7.cell? ⟨RB, 0, none⟩ = some (.int .i64 0) := by rw [heap_cell RB7]; rfl
    have x1 : w7.cell? ⟨RB, 1, none⟩ = some (.slice none 0 0) := by rw [heap_cell RB7]; rfl
    have x2 : w7.cell? ⟨RB, 2, none⟩ = some (.string ⟨#[]⟩) := by rw [heap_cell RB7]; rfl
    have x3 : w7.cell? ⟨RB, 3, none⟩ = some (.string ⟨#[]⟩) := by rw [heap_cell RB7]; rfl
    have x4 : w7.cell? ⟨RB, 4, none⟩ = some (.int .i64 0) := by rw [heap_cell RB7]; rfl
    have xf0 : w7.frozen? ⟨RB, 0, none⟩ = false := heap_frozen RB7 0 (by omega)
    have xf1 : w7.frozen? ⟨RB, 1, none⟩ = false := heap_frozen RB7 1 (by omega)
    have xf2 : w7.frozen? ⟨RB, 2, none⟩ = false := heap_frozen RB7 2 (by omega)
    have xf3 : w7.frozen? ⟨RB, 3, none⟩ = false := heap_frozen RB7 3 (by omega)
    have xf4 : w7.frozen? ⟨RB, 4, none⟩ = false := heap_frozen RB7 4 (by omega)
    clear RA7 RB7 g7 FN b0 b1 b2 b3 b4 u0 u1 u2 u3
    go_wp2_with fail
    (try simp only [Exit.inBlock, Exit.then])
    have E1 := E.out
    have hF := failE_ne 41 (T.drop (at_ + 1)) (by omega) (by omega)
    refine read_ret (nd := .zero) (at' := at_ + 1) rfl rfl rfl (E1.1.trans (by push_cast; rfl)) E1.2.1 E1.2.2 (NodeR.In.leaf _ _ 0 ⟨#[]⟩ ⟨#[]⟩ 0) (by omega) hF.2 ?_
    rw [hnv.out.1, if_neg hk.out]
    exact ⟨rfl, rfl, hF.1⟩
  · have k1 : ((v.kind : Int) != 2) = false := by simp; omega
    have ON2 := fun (w' : World) => Ron_c p n cap fin (at_ + 1) 0 0 w' (by omega)
    unfold rdV at ON2
    rw [show ((at_ + 1 : Nat) : Int) = (at_ : Int) + 1 from by omega] at ON2
    replace ON2 := hid ON2
    have hk0 := hid hk
    clear hk
    go_wp2_with fail
    clear b0 b1 b2 b3 b4 u0 u1 u2 u3
    have hc10 : w6.cell? ⟨H, 0, none⟩ = some (.slice p n cap) ∧ w6.cell? ⟨H, 1, none⟩ = some (.int .i64 (fin : Int)) ∧ w6.cell? ⟨H, 2, none⟩ = some (.int .i64 ((at_ : Int) + 1)) ∧ w6.cell? ⟨H, 3, none⟩ = some (.int .i64 0) ∧ w6.cell? ⟨H, 4, none⟩ = some (.int .i64 0) ∧ w6.cell? ⟨tb, 1, none⟩ = some (.string t.str) ∧ w6.cell? ⟨tk, 2, none⟩ = some (.int .i64 v.num) ∧ w6.cell? ⟨tk, 1, none⟩ = some (.string v.str) ∧ w6.cell? ⟨tk, 0, none⟩ = some (.int .i64 (v.kind : Int)) ∧ w6.cell? ⟨tk, 3, none⟩ = some (.int .i64 (v.pos : Int)) := ⟨by rw [heap_cell HH6.out]; rfl, by rw [heap_cell HH6.out]; rfl, by rw [heap_cell HH6.out]; rfl, by rw [heap_cell HH6.out]; rfl, by rw [heap_cell HH6.out]; rfl, by rw [heap_cell TB6.out]; rfl, by rw [heap_cell VB6.out]; rfl, by rw [heap_cell VB6.out]; rfl, by rw [heap_cell VB6.out]; rfl, by rw [heap_cell VB6.out]; rfl⟩
    go_region_held3 (fun w' => w'.cell? ⟨H, 0, none⟩ = some (.slice p n cap) ∧ w'.cell? ⟨H, 1, none⟩ = some (.int .i64 (fin : Int)) ∧ w'.cell? ⟨H, 2, none⟩ = some (.int .i64 ((at_ : Int) + 1)) ∧ w'.cell? ⟨H, 3, none⟩ = some (.int .i64 0) ∧ w'.cell? ⟨H, 4, none⟩ = some (.int .i64 0) ∧ w'.cell? ⟨tb, 1, none⟩ = some (.string t.str) ∧ w'.cell? ⟨tk, 2, none⟩ = some (.int .i64 v.num) ∧ w'.cell? ⟨tk, 1, none⟩ = some (.string v.str) ∧ w'.cell? ⟨tk, 0, none⟩ = some (.int .i64 (v.kind : Int)) ∧ w'.cell? ⟨tk, 3, none⟩ = some (.int .i64 (v.pos : Int)))
      (first | (with_reducible exact keep10 hc10 (Grow.trans (Grow.drew _) (by assumption))) | go_keep)
      ((go_at_call 21
        refine (ON2.out _).mono ?_
        rintro e w9 ⟨rfl, g9⟩
        have HF4 := ((Grow.drew _).trans g9).heap RA6.out
        have HF5 := ((Grow.drew _).trans g9).heap RB6.out
        have G9 := hid ((G6.out.trans (Grow.drew _)).trans g9)
        have gg9 := hid ((Grow.drew w6).trans g9)
        obtain ⟨kk0, kk1, kk2, kk3, kk4, kk5, kk6, kk7, kk8, kk9⟩ := keep10 hc10 ((Grow.drew _).trans g9)
        have z0 : w9.cell? ⟨RA, 0, none⟩ = some (.slice none 0 0) := by rw [heap_cell HF4]; rfl
        have z1 : w9.cell? ⟨RA, 1, none⟩ = some (.int .i64 0) := by rw [heap_cell HF4]; rfl
        have z2 : w9.cell? ⟨RA, 2, none⟩ = some (.int .i64 0) := by rw [heap_cell HF4]; rfl
        have z3 : w9.cell? ⟨RA, 3, none⟩ = some (.int .i64 0) := by rw [heap_cell HF4]; rfl
        have z4 : w9.cell? ⟨RA, 4, none⟩ = some (.int .i64 0) := by rw [heap_cell HF4]; rfl
        have zf0 : w9.frozen? ⟨RA, 0, none⟩ = false := heap_frozen HF4 0 (by omega)
        have zf1 : w9.frozen? ⟨RA, 1, none⟩ = false := heap_frozen HF4 1 (by omega)
        have zf2 : w9.frozen? ⟨RA, 2, none⟩ = false := heap_frozen HF4 2 (by omega)
        have zf3 : w9.frozen? ⟨RA, 3, none⟩ = false := heap_frozen HF4 3 (by omega)
        have zf4 : w9.frozen? ⟨RA, 4, none⟩ = false := heap_frozen HF4 4 (by omega)
        have x0 : w9.cell? ⟨RB, 0, none⟩ = some (.int .i64 0) := by rw [heap_cell HF5]; rfl
        have x1 : w9.cell? ⟨RB, 1, none⟩ = some (.slice none 0 0) := by rw [heap_cell HF5]; rfl
        have x2 : w9.cell? ⟨RB, 2, none⟩ = some (.string ⟨#[]⟩) := by rw [heap_cell HF5]; rfl
        have x3 : w9.cell? ⟨RB, 3, none⟩ = some (.string ⟨#[]⟩) := by rw [heap_cell HF5]; rfl
        have x4 : w9.cell? ⟨RB, 4, none⟩ = some (.int .i64 0) := by rw [heap_cell HF5]; rfl
        have xf0 : w9.frozen? ⟨RB, 0, none⟩ = false := heap_frozen HF5 0 (by omega)
        have xf1 : w9.frozen? ⟨RB, 1, none⟩ = false := heap_frozen HF5 1 (by omega)
        have xf2 : w9.frozen? ⟨RB, 2, none⟩ = false := heap_frozen HF5 2 (by omega)
        have xf3 : w9.frozen? ⟨RB, 3, none⟩ = false := heap_frozen HF5 3 (by omega)
        have xf4 : w9.frozen? ⟨RB, 4, none⟩ = false := heap_frozen HF5 4 (by omega)
        replace HF4 := hid HF4
        replace HF5 := hid HF5))
    go_wp2_with fail
    (try simp only [Exit.inBlock, Exit.then])
    have E1 := store10 G9.out (r4 := RA) (r5 := RB) (by omega) (by omega) nAB HF4.out HF5.out (.slice p n cap) (.int .i64 (fin : Int)) (.int .i64 ((at_ : Int) + 1 + 1)) (.int .i64 0) (.int .i64 0) (.int .i64 5) (.slice none 0 0) (.string t.str) (.string ⟨#[]⟩) (.int .i64 v.num)
    refine read_ret (nd := .mk 5 [] t.str ⟨#[]⟩ v.num) (at' := at_ + 1 + 1) (e' := 0) (pos' := 0) rfl rfl rfl (E1.1.trans (by push_cast; rfl)) E1.2.1 E1.2.2 (NodeR.In.leaf _ _ 5 t.str ⟨#[]⟩ v.num) (hnv.out.2 hk0.out) (by omega) ?_
    rw [hnv.out.1, if_pos hk0.out]
    exact ⟨rfl, rfl, rfl, rfl⟩
set_option maxRecDepth 100000 in
set_option maxHeartbeats 8000000 in
theorem RPartComp (p : Option Addr) (n cap fin at_ dp : Nat) (T : List Tok) (w : World) (hT : TokS w p n cap T) (hat : at_ ≤ T.length) (hd : dp ≤ 32) (t : Tok) (ht : nextK T at_ 0 = t) (hok : ∀ t ∈ T, t.Ok) (hlt : at_ < T.length) (hf : fieldB t.str = true) (h1 : ¬t.str.toList = [110, 111, 116]) (h2 : ¬t.str.toList = [97, 108, 108]) (h3 : ¬t.str.toList = [40]) (h4 : ¬t.str.toList = [111, 118, 101, 114, 108, 97, 112, 115]) (h5 : ¬t.str.toList = [98, 101, 102, 111, 114, 101]) (h6 : ¬t.str.toList = [97, 102, 116, 101, 114]) :
    Calls Tryd.prog 37 #[rdV p n cap fin at_ 0 0, .int .i64 (dp : Int)] w (RPost T p n cap fin (compareP fin (t :: T.drop (at_ + 1))) w) := by
  have HT := hid hT
  have hn4 : T.length ≤ 4096 := by rw [← hT.1]; exact hT.cells.1
  unfold rdV
  rw [show ((0 : Nat) : Int) = (0 : Int) from rfl]
  have hd1 : (dp : Int) ≤ 32 := by omega
  have G0 := hid (Grow.trans (Grow.trans (Grow.alloc w (.cells #[.slice p n cap, .int .i64 (fin : Int), .int .i64 (at_ : Int), .int .i64 0, .int .i64 0] 52)) (Grow.alloc _ ReadZ)) (Grow.alloc _ NodeZ))
  have B0 := hid (heap_alloc_keep (heap_alloc_keep (heap_new w (.cells #[.slice p n cap, .int .i64 (fin : Int), .int .i64 (at_ : Int), .int .i64 0, .int .i64 0] 52)) ReadZ) NodeZ)
  have R40 := hid (heap_alloc_keep (heap_newAt (w.alloc (.cells #[.slice p n cap, .int .i64 (fin : Int), .int .i64 (at_ : Int), .int .i64 0, .int .i64 0] 52)) ReadZ (g := w.heap.size + 1) (by simp)) NodeZ)
  have R50 := hid (heap_newAt ((w.alloc (.cells #[.slice p n cap, .int .i64 (fin : Int), .int .i64 (at_ : Int), .int .i64 0, .int .i64 0] 52)).alloc ReadZ) NodeZ (g := w.heap.size + 1 + 1) (by simp))
  have NX := hid (fun (w' : World) (g : Grow w w') => Rnext_c p n cap fin at_ 0 0 T w' (hT.grow g) (by omega) (by omega))
  unfold rdV at NX
  have hd2 : ¬(32 : Int) < dp := by omega
  rw [ht] at NX
  replace ht := hid ht
  clear hT
  have hok0 := hid hok
  have hf0 := hid hf
  clear hok
  have k1 : (t.str.toList == [110, 111, 116]) = false := by simpa using h1
  have k2 : (t.str.toList == [97, 108, 108]) = false := by simpa using h2
  have k3 : (t.str.toList == [40]) = false := by simpa using h3
  have k4 : (t.str.toList == [111, 118, 101, 114, 108, 97, 112, 115]) = false := by simpa using h4
  have k5 : (t.str.toList == [98, 101, 102, 111, 114, 101]) = false := by simpa using h5
  have k6 : (t.str.toList == [97, 102, 116, 101, 114]) = false := by simpa using h6
  go_enter Tryd.func37, Tryd.ntmps37
  go_wp2_with fail
  refine (NX.out _ G0.out).mono ?_
  rintro e w1 ⟨rfl, g1⟩
  unfold tokV
  generalize hH : w.heap.size = H at *
  have hws : w.heap.size ≤ H := Nat.le_of_eq hH
  replace hH := hid hH
  have hA1 : H < H + 1 := by omega
  have hB1 : H + 1 < H + 1 + 1 := by omega
  generalize H + 1 + 1 = RB at *
  generalize H + 1 = RA at *
  have nHA : H ≠ RA := by omega
  have nHB : H ≠ RB := by omega
  have nAB : RA ≠ RB := by omega
  have nAH : RA ≠ H := by omega
  have nBH : RB ≠ H := by omega
  have nBA : RB ≠ RA := by omega
  have G2 := hid ((G0.out.trans g1).trans (Grow.alloc w1 (.cells #[.int .i64 (t.kind : Int), .string t.str, .int .i64 t.num, .int .i64 (t.pos : Int)] 54)))
  have HB := hid (heap_alloc_keep (g1.heap B0.out) (.cells #[.int .i64 (t.kind : Int), .string t.str, .int .i64 t.num, .int .i64 (t.pos : Int)] 54))
  have RA2 := hid (heap_alloc_keep (g1.heap R40.out) (.cells #[.int .i64 (t.kind : Int), .string t.str, .int .i64 t.num, .int .i64 (t.pos : Int)] 54))
  have RB2 := hid (heap_alloc_keep (g1.heap R50.out) (.cells #[.int .i64 (t.kind : Int), .string t.str, .int .i64 t.num, .int .i64 (t.pos : Int)] 54))
  have TB := hid (heap_new w1 (.cells #[.int .i64 (t.kind : Int), .string t.str, .int .i64 t.num, .int .i64 (t.pos : Int)] 54))
  have hz1 := heap_lt (g1.heap R50.out)
  clear g1 G0 B0 R40 R50 NX
  go_upto_region 4 with fail
  generalize w1.alloc (.cells #[.int .i64 (t.kind : Int), .string t.str, .int .i64 t.num, .int .i64 (t.pos : Int)] 54) = w2 at *
  generalize w1.heap.size = tb at *
  have b0 : w2.cell? ⟨H, 0, none⟩ = some (.slice p n cap) := by rw [heap_cell HB.out]; rfl
  have b1 : w2.cell? ⟨H, 1, none⟩ = some (.int .i64 (fin : Int)) := by rw [heap_cell HB.out]; rfl
  have b2 : w2.cell? ⟨H, 2, none⟩ = some (.int .i64 (at_ : Int)) := by rw [heap_cell HB.out]; rfl
  have b3 : w2.cell? ⟨H, 3, none⟩ = some (.int .i64 0) := by rw [heap_cell HB.out]; rfl
  have b4 : w2.cell? ⟨H, 4, none⟩ = some (.int .i64 0) := by rw [heap_cell HB.out]; rfl
  have u0 : w2.cell? ⟨tb, 0, none⟩ = some (.int .i64 (t.kind : Int)) := by rw [heap_cell TB.out]; rfl
  have u1 : w2.cell? ⟨tb, 1, none⟩ = some (.string t.str) := by rw [heap_cell TB.out]; rfl
  have u2 : w2.cell? ⟨tb, 2, none⟩ = some (.int .i64 t.num) := by rw [heap_cell TB.out]; rfl
  have u3 : w2.cell? ⟨tb, 3, none⟩ = some (.int .i64 (t.pos : Int)) := by rw [heap_cell TB.out]; rfl
  have nTA : tb ≠ RA := by omega
  have nTB : tb ≠ RB := by omega
  have nAT : RA ≠ tb := by omega
  have nBT : RB ≠ tb := by omega
  have hzt := heap_lt TB.out
  have hzH := heap_lt HB.out
  have FL := hid (RField_c t.str w2)
  rw [hf] at FL
  go_wp2_with fail
  refine FL.out.mono ?_
  rintro e w3 ⟨rfl, g3⟩
  have HB3 := hid (g3.heap HB.out)
  have RA3 := hid (g3.heap RA2.out)
  have RB3 := hid (g3.heap RB2.out)
  have TB3 := hid (g3.heap TB.out)
  have G3 := hid (G2.out.trans g3)
  clear b0 b1 b2 b3 b4 u0 u1 u2 u3 g3 FL h1 h2 h3 h4 h5 h6 k1 k2 k3 k4 k5 k6
  have ON := hid (fun (w' : World) => Ron_c p n cap fin at_ 0 0 w' (by omega))
  unfold rdV at ON
  have CM := fun (w' : World) (g : Grow w3 w') => RCompare_c t t.str p n cap fin (at_ + 1) T w' (HT.out.grow (G3.out.trans g)) hok0.out (by omega) hf0.out rfl
  unfold rdV at CM
  rw [show ((at_ + 1 : Nat) : Int) = (at_ : Int) + 1 from by omega] at CM
  replace CM := hid CM
  go_wp2_with fail
  have hc10 : w3.cell? ⟨H, 0, none⟩ = some (.slice p n cap) ∧ w3.cell? ⟨H, 1, none⟩ = some (.int .i64 (fin : Int)) ∧ w3.cell? ⟨H, 2, none⟩ = some (.int .i64 (at_ : Int)) ∧ w3.cell? ⟨H, 3, none⟩ = some (.int .i64 0) ∧ w3.cell? ⟨H, 4, none⟩ = some (.int .i64 0) ∧ w3.cell? ⟨tb, 1, none⟩ = some (.string t.str) ∧ w3.cell? ⟨tb, 2, none⟩ = some (.int .i64 t.num) ∧ w3.cell? ⟨tb, 0, none⟩ = some (.int .i64 (t.kind : Int)) ∧ w3.cell? ⟨tb, 3, none⟩ = some (.int .i64 (t.pos : Int)) ∧ w3.cell? ⟨tb, 1, none⟩ = some (.string t.str) := ⟨by rw [heap_cell HB3.out]; rfl, by rw [heap_cell HB3.out]; rfl, by rw [heap_cell HB3.out]; rfl, by rw [heap_cell HB3.out]; rfl, by rw [heap_cell HB3.out]; rfl, by rw [heap_cell TB3.out]; rfl, by rw [heap_cell TB3.out]; rfl, by rw [heap_cell TB3.out]; rfl, by rw [heap_cell TB3.out]; rfl, by rw [heap_cell TB3.out]; rfl⟩
  go_region_held3 (fun w' => w'.cell? ⟨H, 0, none⟩ = some (.slice p n cap) ∧ w'.cell? ⟨H, 1, none⟩ = some (.int .i64 (fin : Int)) ∧ w'.cell? ⟨H, 2, none⟩ = some (.int .i64 (at_ : Int)) ∧ w'.cell? ⟨H, 3, none⟩ = some (.int .i64 0) ∧ w'.cell? ⟨H, 4, none⟩ = some (.int .i64 0) ∧ w'.cell? ⟨tb, 1, none⟩ = some (.string t.str) ∧ w'.cell? ⟨tb, 2, none⟩ = some (.int .i64 t.num) ∧ w'.cell? ⟨tb, 0, none⟩ = some (.int .i64 (t.kind : Int)) ∧ w'.cell? ⟨tb, 3, none⟩ = some (.int .i64 (t.pos : Int)) ∧ w'.cell? ⟨tb, 1, none⟩ = some (.string t.str))
    (first | (with_reducible exact keep10 hc10 (Grow.trans (Grow.drew _) (by assumption))) | go_keep)
    (first
      | (go_at_call 21
         refine (ON.out _).mono ?_
         rintro e w9 ⟨rfl, g9⟩
         have gg9 := hid ((Grow.drew w3).trans g9)
         obtain ⟨kk0, kk1, kk2, kk3, kk4, kk5, kk6, kk7, kk8, kk9⟩ := keep10 hc10 ((Grow.drew _).trans g9))
      | (go_at_call 55
         refine (CM.out _ gg9.out).mono ?_
         rintro e wx ⟨at', e', pos', nd, v3, rfl, hin, gx, hat', he', hm⟩
         obtain ⟨mk, mp, ml, mc, mf, ms, mx, rfl⟩ := NodeR.In.value hin
         unfold rdV
         have hmm := hid hm
         have hin0 := hid hin
         have hat2 := hid hat'
         have he2 := hid he'
         have gwx : Grow w3.drew wx := g9.trans gx
         have HF4 := (gg9.out.trans gx).heap RA3.out
         have HF5 := (gg9.out.trans gx).heap RB3.out
         have G9 := hid ((G3.out.trans gg9.out).trans gx)
         have hs9 := hid gg9.out.size
         have z0 : wx.cell? ⟨RA, 0, none⟩ = some (.slice none 0 0) := by rw [heap_cell HF4]; rfl
         have z1 : wx.cell? ⟨RA, 1, none⟩ = some (.int .i64 0) := by rw [heap_cell HF4]; rfl
         have z2 : wx.cell? ⟨RA, 2, none⟩ = some (.int .i64 0) := by rw [heap_cell HF4]; rfl
         have z3 : wx.cell? ⟨RA, 3, none⟩ = some (.int .i64 0) := by rw [heap_cell HF4]; rfl
         have z4 : wx.cell? ⟨RA, 4, none⟩ = some (.int .i64 0) := by rw [heap_cell HF4]; rfl
         have zf0 : wx.frozen? ⟨RA, 0, none⟩ = false := heap_frozen HF4 0 (by omega)
         have zf1 : wx.frozen? ⟨RA, 1, none⟩ = false := heap_frozen HF4 1 (by omega)
         have zf2 : wx.frozen? ⟨RA, 2, none⟩ = false := heap_frozen HF4 2 (by omega)
         have zf3 : wx.frozen? ⟨RA, 3, none⟩ = false := heap_frozen HF4 3 (by omega)
         have zf4 : wx.frozen? ⟨RA, 4, none⟩ = false := heap_frozen HF4 4 (by omega)
         have x0 : wx.cell? ⟨RB, 0, none⟩ = some (.int .i64 0) := by rw [heap_cell HF5]; rfl
         have x1 : wx.cell? ⟨RB, 1, none⟩ = some (.slice none 0 0) := by rw [heap_cell HF5]; rfl
         have x2 : wx.cell? ⟨RB, 2, none⟩ = some (.string ⟨#[]⟩) := by rw [heap_cell HF5]; rfl
         have x3 : wx.cell? ⟨RB, 3, none⟩ = some (.string ⟨#[]⟩) := by rw [heap_cell HF5]; rfl
         have x4 : wx.cell? ⟨RB, 4, none⟩ = some (.int .i64 0) := by rw [heap_cell HF5]; rfl
         have xf0 : wx.frozen? ⟨RB, 0, none⟩ = false := heap_frozen HF5 0 (by omega)
         have xf1 : wx.frozen? ⟨RB, 1, none⟩ = false := heap_frozen HF5 1 (by omega)
         have xf2 : wx.frozen? ⟨RB, 2, none⟩ = false := heap_frozen HF5 2 (by omega)
         have xf3 : wx.frozen? ⟨RB, 3, none⟩ = false := heap_frozen HF5 3 (by omega)
         have xf4 : wx.frozen? ⟨RB, 4, none⟩ = false := heap_frozen HF5 4 (by omega)
         clear hm hin hat' he'
         replace HF4 := hid HF4
         replace HF5 := hid HF5))
  go_wp2_with fail
  (try simp only [Exit.inBlock, Exit.then])
  have E1 := store10 G9.out (r4 := RA) (r5 := RB) (by omega) (by omega) nAB HF4.out HF5.out (.slice p n cap) (.int .i64 (fin : Int)) (.int .i64 (at' : Int)) (.int .i64 (e' : Int)) (.int .i64 (pos' : Int)) (.int .i64 mk) (.slice mp ml mc) (.string mf) (.string ms) (.int .i64 mx)
  have Y1 := by10 wx RA RB (.slice p n cap) (.int .i64 (fin : Int)) (.int .i64 (at' : Int)) (.int .i64 (e' : Int)) (.int .i64 (pos' : Int)) (.int .i64 mk) (.slice mp ml mc) (.string mf) (.string ms) (.int .i64 mx)
  have hzr := heap_lt RB3.out
  have hzw := G3.out.size
  have hs9' := hs9.out
  have hin9 := NodeR.In.weaken (S' := fun b => w.heap.size ≤ b) (fun b _ hS => by have h : w9.heap.size ≤ b := hS; show w.heap.size ≤ b; omega) (in10 Y1.1 Y1.2 (fun x hx hS => ⟨by have h : w9.heap.size ≤ x := hS; omega, by have h : w9.heap.size ≤ x := hS; omega⟩) hin0.out)
  refine read_ret (nd := nd) (at' := at') (e' := e') (pos' := pos') rfl rfl rfl E1.1 E1.2.1 E1.2.2 hin9 hat2.out he2.out ?_
  exact hmm.out
theorem next_cases (T : List Tok) (a : Nat) (ha : a ≤ T.length) : (T.drop a = [] ∧ nextK T a 0 = ⟨0, [], 0, 0⟩) ∨ (T.drop a = nextK T a 0 :: T.drop (a + 1) ∧ a < T.length) := by
  have hnk : nextK T a 0 = T.getD a ⟨0, [], 0, 0⟩ := by unfold nextK; rw [if_neg (by simp)]
  rw [hnk]
  by_cases h : a < T.length
  · right
    rw [List.getD_eq_getElem?_getD, List.getElem?_eq_getElem h, Option.getD_some]
    exact ⟨List.drop_eq_getElem_cons h, h⟩
  · left
    rw [List.getD_eq_getElem?_getD, List.getElem?_eq_none (by omega), Option.getD_none]
    exact ⟨List.drop_eq_nil_of_le (by omega), rfl⟩
theorem zero_str : (Tok.str ⟨0, [], 0, 0⟩) = ⟨#[]⟩ := rfl
theorem RPart_c (T : List Tok) (hok : ∀ t ∈ T, t.Ok) (p : Option Addr) (n cap fin : Nat) : ∀ (d dp : Nat), d + dp = 33 → PartOk T p n cap fin d dp
  | 0, dp, hd, a, w, hT, ha => by
    have h := RPartDeep p n cap fin a dp T w hT ha (by omega) (by omega)
    exact h
  | d + 1, dp, hd, a, w, hT, ha => by
    have HI := RPart_c T hok p n cap fin d (dp + 1) (by omega)
    have HL : ListOk T p n cap fin d dp := fun a' w' hT' ha' =>
      RListT_c p n cap fin a' dp T w' (andP fin d) (andP_len fin d) hT' ha' (by omega) (fun b wb hTb hb =>
        RListF_c p n cap fin b dp T wb (partP fin d) (partP_len fin d) hTb hb (by omega) (fun c wc hTc hc => HI c wc hTc hc))
    have eN : bNot.toList = [110, 111, 116] := by kernel_rfl
    have eA : bAll.toList = [97, 108, 108] := by kernel_rfl
    have eP : bOpen.toList = [40] := by kernel_rfl
    have eO : bOverlaps.toList = [111, 118, 101, 114, 108, 97, 112, 115] := by kernel_rfl
    have eB : bBefore.toList = [98, 101, 102, 111, 114, 101] := by kernel_rfl
    have eF : bAfter.toList = [97, 102, 116, 101, 114] := by kernel_rfl
    have eZ : ByteArray.toList ⟨#[]⟩ = [] := by kernel_rfl
    have fZ : fieldB ⟨#[]⟩ = false := by kernel_rfl
    rcases next_cases T a ha with ⟨h1, h2⟩ | ⟨h1, h2⟩
    · have h := RPartFail p n cap fin a dp T w hT ha (by omega) _ rfl (by rw [h2, zero_str]; exact fZ) (by rw [h2, zero_str, eZ]; simp) (by rw [h2, zero_str, eZ]; simp) (by rw [h2, zero_str, eZ]; simp) (by rw [h2, zero_str, eZ]; simp) (by rw [h2, zero_str, eZ]; simp) (by rw [h2, zero_str, eZ]; simp)
      rw [h1] at h ⊢
      exact h
    · have hI : ∀ b : ByteArray, isT (T.drop a) b = ((nextK T a 0).str.toList == b.toList) := fun b => by rw [h1]; rfl
      have hP : partP fin (d + 1) (T.drop a) = if isT (T.drop a) bNot then notR (partP fin d (T.drop (a + 1))) else if isT (T.drop a) bAll then .ok (.mk 6 [] ⟨#[]⟩ ⟨#[]⟩ 0) (T.drop (a + 1)) else if isT (T.drop a) bOpen then openR fin (orP fin d (T.drop (a + 1))) else if isT (T.drop a) bOverlaps || isT (T.drop a) bBefore || isT (T.drop a) bAfter then nearP fin (nextK T a 0 :: T.drop (a + 1)) else compareP fin (nextK T a 0 :: T.drop (a + 1)) := by
        rw [← h1]
        have ht : (T.drop a).tail = T.drop (a + 1) := by rw [h1]; rfl
        rw [partP, ht]
        rfl
      rw [hP]
      generalize hnx : nextK T a 0 = t at *
      simp only [hI, eN, eA, eP, eO, eB, eF]
      by_cases c1 : t.str.toList = [110, 111, 116]
      · rw [if_pos (by rw [c1]; rfl)]
        exact RPartNot p n cap fin a dp T w hT ha (by omega) t hnx d HI h2 c1
      rw [if_neg (by simpa using c1)]
      by_cases c2 : t.str.toList = [97, 108, 108]
      · rw [if_pos (by rw [c2]; rfl)]
        exact RPartAll p n cap fin a dp T w hT ha (by omega) t hnx h2 c2
      rw [if_neg (by simpa using c2)]
      by_cases c3 : t.str.toList = [40]
      · rw [if_pos (by rw [c3]; rfl)]
        exact RPartOpen p n cap fin a dp T w hT ha (by omega) t hnx d HL h2 c3
      rw [if_neg (by simpa using c3)]
      by_cases c4 : t.str.toList = [111, 118, 101, 114, 108, 97, 112, 115]
      · rw [if_pos (by rw [c4]; rfl)]
        exact RPartOver p n cap fin a dp T w hT ha (by omega) t hnx h2 c4
      by_cases c5 : t.str.toList = [98, 101, 102, 111, 114, 101]
      · rw [if_pos (by rw [c5]; rfl)]
        exact RPartBefore p n cap fin a dp T w hT ha (by omega) t hnx h2 c5
      by_cases c6 : t.str.toList = [97, 102, 116, 101, 114]
      · rw [if_pos (by rw [c6]; rfl)]
        exact RPartAfter p n cap fin a dp T w hT ha (by omega) t hnx h2 c6
      rw [if_neg (by simp [c4, c5, c6])]
      cases hf : fieldB t.str with
      | true => exact RPartComp p n cap fin a dp T w hT ha (by omega) t hnx hok h2 hf c1 c2 c3 c4 c5 c6
      | false =>
        have h := RPartFail p n cap fin a dp T w hT ha (by omega) t hnx hf c1 c2 c3 c4 c5 c6
        rw [h1] at h
        have e : compareP fin (t :: T.drop (a + 1)) = failP fin 41 (t :: T.drop (a + 1)) := by
          unfold compareP
          simp only [hf, Bool.false_eq_true, if_false]
        rw [e]
        exact h
theorem ROr_c (T : List Tok) (hok : ∀ t ∈ T, t.Ok) (p : Option Addr) (n cap fin : Nat) : ListOk T p n cap fin 32 0 := fun a' w' hT' ha' =>
  RListT_c p n cap fin a' 0 T w' (andP fin 32) (andP_len fin 32) hT' ha' (by omega) (fun b wb hTb hb =>
    RListF_c p n cap fin b 0 T wb (partP fin 32) (partP_len fin 32) hTb hb (by omega) (fun c wc hTc hc => RPart_c T hok p n cap fin 32 1 (by omega) c wc hTc hc))
end Go.Proofs.YteilkcdbdpkbfaaDoor
