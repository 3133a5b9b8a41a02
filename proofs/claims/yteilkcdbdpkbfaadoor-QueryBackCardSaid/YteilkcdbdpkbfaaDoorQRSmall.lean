/- The reference's small calls. -/
import Derived.Test.YteilkcdbdpkbfaaDoorQParse2
import Derived.Test.YteilkcdbdpkbfaaDoorLexRScan
namespace Go.Proofs.YteilkcdbdpkbfaaDoor
open Go.RowKit
set_option linter.unusedVariables false
set_option linter.unusedSimpArgs false
attribute [local go_sem ↓ high] setCell_twice
/-- The reference's reading: the signs, the end, how many are taken, the fault, where. -/
def rdV (p : Option Addr) (n cap : Nat) (fin : Nat) (at_ e pos : Nat) : Value := .agg #[.slice p n cap, .int .i64 (fin : Int), .int .i64 (at_ : Int), .int .i64 (e : Int), .int .i64 (pos : Int)]
/-- The next sign, or none. -/
def nextK (T : List Tok) (at_ e : Nat) : Tok := if e ≠ 0 then ⟨0, [], 0, 0⟩ else T.getD at_ ⟨0, [], 0, 0⟩
/-- The signs lie there. -/
def TokS (w : World) (p : Option Addr) (n cap : Nat) (T : List Tok) : Prop := n = T.length ∧ Toks w (.slice p n cap) T
theorem TokS.grow {w w' : World} {p : Option Addr} {n cap : Nat} {T : List Tok} (h : TokS w p n cap T) (g : Grow w w') : TokS w' p n cap T := ⟨h.1, h.2.grow g⟩
theorem TokS.cells {w : World} {p : Option Addr} {n cap : Nat} {T : List Tok} (h : TokS w p n cap T) : n ≤ 4096 ∧ (0 < n → ∃ b, p = some ⟨b, 0, none⟩ ∧ b < w.heap.size ∧ ∀ i (h : i < T.length), w.cell? ⟨b, i * 4, none⟩ = some (.int .i64 (T[i].kind : Int)) ∧ w.cell? ⟨b, i * 4 + 1, none⟩ = some (.string T[i].str) ∧
    w.cell? ⟨b, i * 4 + 2, none⟩ = some (.int .i64 T[i].num) ∧ w.cell? ⟨b, i * 4 + 3, none⟩ = some (.int .i64 (T[i].pos : Int))) := by
  obtain ⟨rfl, p', cap', e, ⟨h1, h2⟩, h3⟩ := h
  simp only [Value.slice.injEq, true_and] at e
  obtain ⟨rfl, rfl⟩ := e
  refine ⟨h1, fun hn => ?_⟩
  obtain ⟨b, hp, hc⟩ := h3 hn
  exact ⟨b, hp, World.block_lt_of_cell? _ _ (hc 0 hn).1, fun i hi => hc i hi⟩
set_option maxRecDepth 100000 in
set_option maxHeartbeats 4000000 in
theorem Rnext_c (p : Option Addr) (n cap fin at_ e pos : Nat) (T : List Tok) (w : World) (h : TokS w p n cap T) (ha : at_ ≤ 10000) (he : e ≤ 10000) :
    Calls Tryd.prog 20 #[rdV p n cap fin at_ e pos] w fun r w' => r = .returned (tokV (nextK T at_ e)) ∧ Grow w w' := by
  unfold rdV
  obtain ⟨hn, hc⟩ := h.cells
  have hnT := h.1
  have ha1 : (at_ : Int) ≤ 10000 := by omega
  have hn1 : (n : Int) ≤ 4096 := by omega
  have zres : ∀ W, Grow w W → W.heap[w.heap.size + 1]? = some (.cells #[.int .i64 0, .string ⟨#[]⟩, .int .i64 0, .int .i64 0] 54) → True := fun _ _ _ => trivial
  clear zres
  have HC := hid hc
  have HN := hid hnT
  clear hc h hnT
  by_cases h0 : e = 0
  · subst h0
    by_cases hlt : at_ < n
    · obtain ⟨b, rfl, hb, hcell⟩ := HC.out (by omega)
      obtain ⟨c0, c1, c2, c3⟩ := hcell at_ (by have := HN.out; omega)
      have HK := hid (show nextK T at_ 0 = T[at_]'(by have := HN.out; omega) from by
        unfold nextK
        rw [if_neg (by simp), List.getD_eq_getElem?_getD, List.getElem?_eq_getElem (by have := HN.out; omega)]
        rfl)
      have i1 : (at_ : Int) < (n : Int) := by omega
      have i0 : (0 : Int) ≤ (at_ : Int) := by omega
      have i2 : decide ((n : Int) ≤ (at_ : Int)) = false := by simp; omega
      have i3 : decide (n ≤ at_) = false := by simp; omega
      clear hcell
      generalize T[at_]'(by have := HN.out; omega) = t at *
      go_enter Tryd.func20, Tryd.ntmps20
      go_wp2_with fail
      (try simp only [Exit.inBlock, Exit.then])
      refine bodyPost_ret (results_cellK (fn := Tryd.f20) (p := 2) rfl _ _ (w.heap.size + 1) 54 _ (0, 0) _ rfl (heap_newAt _ _ (by simp)) Tryd.underlying54 rfl (by kernel_rfl)) rfl ?_
      exact ⟨by rw [HK.out]; rfl, Grow.trans (Grow.alloc _ _) (Grow.alloc _ _)⟩
    · have i2 : decide ((n : Int) ≤ (at_ : Int)) = true := by simp; omega
      have i3 : decide (n ≤ at_) = true := by simp; omega
      have HK := hid (show nextK T at_ 0 = ⟨0, [], 0, 0⟩ from by
        unfold nextK
        rw [if_neg (by simp), List.getD_eq_getElem?_getD, List.getElem?_eq_none (by have := HN.out; omega)]
        rfl)
      go_enter Tryd.func20, Tryd.ntmps20
      go_wp2_with fail
      (try simp only [Exit.inBlock, Exit.then])
      refine bodyPost_ret (results_cellK (fn := Tryd.f20) (p := 2) rfl _ _ (w.heap.size + 1) 54 _ (0, 0) _ rfl (heap_newAt _ _ (by simp)) Tryd.underlying54 rfl (by kernel_rfl)) rfl ?_
      exact ⟨by rw [HK.out]; rfl, Grow.trans (Grow.alloc _ _) (Grow.alloc _ _)⟩
  · have e1 : ((e : Int) != 0) = true := by simp; omega
    have HK := hid (show nextK T at_ e = ⟨0, [], 0, 0⟩ from by unfold nextK; rw [if_pos h0])
    go_enter Tryd.func20, Tryd.ntmps20
    go_wp2_with fail
    (try simp only [Exit.inBlock, Exit.then])
    refine bodyPost_ret (results_cellK (fn := Tryd.f20) (p := 2) rfl _ _ (w.heap.size + 1) 54 _ (0, 0) _ rfl (heap_newAt _ _ (by simp)) Tryd.underlying54 rfl (by kernel_rfl)) rfl ?_
    exact ⟨by rw [HK.out]; rfl, Grow.trans (Grow.alloc _ _) (Grow.alloc _ _)⟩
set_option maxRecDepth 100000 in
theorem Ron_c (p : Option Addr) (n cap fin at_ e pos : Nat) (w : World) (ha : at_ ≤ 10000) :
    Calls Tryd.prog 21 #[rdV p n cap fin at_ e pos] w fun r w' => r = .returned (rdV p n cap fin (at_ + 1) e pos) ∧ Grow w w' := by
  unfold rdV
  have ha1 : (at_ : Int) ≤ 10000 := by omega
  go_enter Tryd.func21, Tryd.ntmps21
  go_wp2_with fail
  (try simp only [Exit.inBlock, Exit.then])
  refine bodyPost_ret (results_cellK (fn := Tryd.f21) (p := 2) rfl _ _ (w.heap.size + 1) 52 _ (0, 0) _ rfl (heap_newAt _ _ (by simp)) Tryd.underlying52 rfl (by kernel_rfl)) rfl ?_
  exact ⟨by push_cast; rfl, Grow.trans (Grow.alloc _ _) (Grow.alloc _ _)⟩
/-- The fault of a reading that had none. -/
def failK (k : Nat) (T : List Tok) (at_ : Nat) : Nat := failE k (T.drop at_)
set_option maxRecDepth 100000 in
theorem RfailOld_c (p : Option Addr) (n cap fin at_ e pos k : Nat) (w : World) (he : e ≠ 0) :
    Calls Tryd.prog 24 #[rdV p n cap fin at_ e pos, .int .i64 (k : Int)] w fun r w' => r = .returned (rdV p n cap fin at_ e pos) ∧ Grow w w' := by
  unfold rdV
  have e1 : ((e : Int) != 0) = true := by simp; omega
  go_enter Tryd.func24, Tryd.ntmps24
  go_wp2_with fail
  (try simp only [Exit.inBlock, Exit.then])
  refine bodyPost_ret (results_cellK (fn := Tryd.f24) (p := 4) rfl _ _ (w.heap.size + 1) 52 _ (0, 0) _ rfl (heap_newAt _ _ (by simp)) Tryd.underlying52 rfl (by kernel_rfl)) rfl ?_
  exact ⟨rfl, Grow.trans (Grow.alloc _ _) (Grow.alloc _ _)⟩
set_option maxRecDepth 100000 in
set_option maxHeartbeats 4000000 in
theorem RfailNew_c (p : Option Addr) (n cap fin at_ pos k : Nat) (T : List Tok) (w : World) (h : TokS w p n cap T) (ha : at_ ≤ 10000) :
    Calls Tryd.prog 24 #[rdV p n cap fin at_ 0 pos, .int .i64 (k : Int)] w fun r w' => r = .returned (rdV p n cap fin at_ (failE k (T.drop at_)) (failAt fin (T.drop at_))) ∧ Grow w w' := by
  unfold rdV
  obtain ⟨hn, hc⟩ := h.cells
  have hnT := h.1
  have ha1 : (at_ : Int) ≤ 10000 := by omega
  have hn1 : (n : Int) ≤ 4096 := by omega
  have HC := hid hc
  have HN := hid hnT
  clear hc h hnT
  by_cases hlt : at_ < n
  · obtain ⟨b, rfl, hb, hcell⟩ := HC.out (by omega)
    have hlT : at_ < T.length := by have := HN.out; omega
    obtain ⟨c0, c1, c2, c3⟩ := hcell at_ hlT
    have HD := hid (List.drop_eq_getElem_cons hlT)
    have i1 : (at_ : Int) < (n : Int) := by omega
    have i0 : (0 : Int) ≤ (at_ : Int) := by omega
    clear hcell
    generalize T[at_] = t at *
    go_enter Tryd.func24, Tryd.ntmps24
    go_wp2_with fail
    (try simp only [Exit.inBlock, Exit.then])
    refine bodyPost_ret (results_cellK (fn := Tryd.f24) (p := 4) rfl _ _ (w.heap.size + 1) 52 _ (0, 0) _ rfl (heap_newAt _ _ (by simp)) Tryd.underlying52 rfl (by kernel_rfl)) rfl ?_
    exact ⟨by rw [HD.out]; rfl, Grow.trans (Grow.alloc _ _) (Grow.alloc _ _)⟩
  · have HD := hid (show T.drop at_ = [] from List.drop_eq_nil_of_le (by have := HN.out; omega))
    have i1 : decide ((at_ : Int) < (n : Int)) = false := by simp; omega
    have i2 : decide (at_ < n) = false := by simp; omega
    by_cases hk : k = 41
    · subst hk
      go_enter Tryd.func24, Tryd.ntmps24
      go_wp2_with fail
      (try simp only [Exit.inBlock, Exit.then])
      refine bodyPost_ret (results_cellK (fn := Tryd.f24) (p := 4) rfl _ _ (w.heap.size + 1) 52 _ (0, 0) _ rfl (heap_newAt _ _ (by simp)) Tryd.underlying52 rfl (by kernel_rfl)) rfl ?_
      exact ⟨by rw [HD.out]; rfl, Grow.trans (Grow.alloc _ _) (Grow.alloc _ _)⟩
    · have hk1 : ((k : Int) == 41) = false := by simp; omega
      have HF := hid (show failE k [] = k from by simp [failE, hk])
      clear hk
      go_enter Tryd.func24, Tryd.ntmps24
      go_wp2_with fail
      (try simp only [Exit.inBlock, Exit.then])
      refine bodyPost_ret (results_cellK (fn := Tryd.f24) (p := 4) rfl _ _ (w.heap.size + 1) 52 _ (0, 0) _ rfl (heap_newAt _ _ (by simp)) Tryd.underlying52 rfl (by kernel_rfl)) rfl ?_
      exact ⟨by rw [HD.out, HF.out]; rfl, Grow.trans (Grow.alloc _ _) (Grow.alloc _ _)⟩
end Go.Proofs.YteilkcdbdpkbfaaDoor
