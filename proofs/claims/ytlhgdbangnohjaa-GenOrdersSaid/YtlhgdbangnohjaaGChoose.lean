/- Which process asks next: gen's choose. -/
import Derived.Test.YtlhgdbangnohjaaGHeld
import Derived.StillTailTactics
namespace Go.Proofs.Ytlhgdbangnohjaa
open Go.RowKit
set_option linter.unusedVariables false
set_option linter.unusedSimpArgs false
theorem GAt.goneAt {base : Nat} {w : World} {c : GenC} {R : GR} {G : GenW} (h : GAt base w c R G) (p : Nat) (hp : p < c.procs.toNat) : w.cell? ⟨R.gg, p, none⟩ = some (.bool (G.gone.getD p false)) := by
  rw [heap_cell h.gone]
  have := h.goneN
  simp [boolCells, List.getD_eq_getElem?_getD, List.getElem?_eq_getElem (show p < G.gone.length by omega)]
theorem GAt.freeAt {base : Nat} {w : World} {c : GenC} {R : GR} {G : GenW} (h : GAt base w c R G) (p : Nat) (hp : p < c.procs.toNat) : w.cell? ⟨R.gf, p, none⟩ = some (.int .i64 (G.free.getD p 0)) := by
  rw [heap_cell h.free]
  have := h.freeN
  simp [i64s, List.getD_eq_getElem?_getD, List.getElem?_eq_getElem (show p < G.free.length by omega)]
/-- What is told of the process chosen. -/
def pickV (o : Option Nat) : Value := match o with
  | none => .tuple #[.int .i64 0, .bool false]
  | some p => .tuple #[.int .i64 (p : Int), .bool true]
theorem chooseL_step {gone : List Bool} {P f i : Nat} (hi : i < P) : chooseL gone P f (P - i) i = if gone.getD ((f + i) % P) false = false then some ((f + i) % P) else chooseL gone P f (P - (i + 1)) (i + 1) := by
  rw [show P - i = (P - (i + 1)) + 1 by omega]
  rfl
set_option maxRecDepth 100000 in
set_option maxHeartbeats 2000000 in
theorem choose_c {base : Nat} {w : World} {c : GenC} {R : GR} {G : GenW} (h : GAt base w c R G) (h1 : 1 ≤ c.procs) (h16 : c.procs ≤ 16) :
    Calls Try.prog 38 #[.pointer (some ⟨R.g, 0, none⟩)] w fun e w' => e = .returned (pickV (chooseL G.gone c.procs.toNat (belowV G.x c.procs).toNat c.procs.toNat 0)) ∧ Only R.gs w w' ∧ Src w' R.gs (nxt G.x) := by
  obtain ⟨P, hP⟩ : ∃ P : Nat, c.procs = (P : Int) := ⟨c.procs.toNat, by omega⟩
  obtain ⟨f, hf⟩ : ∃ f : Nat, belowV G.x c.procs = (f : Int) := ⟨(belowV G.x c.procs).toNat, by have := belowV_lo (x := G.x) h1; omega⟩
  have hfP : f < P := by have := belowV_hi (x := G.x) h1; omega
  have HB := hid (Below_m G.x c.procs R.gs w.drew h.ux (by omega) h.src)
  rw [belV_pos h1, belX_pos h1, hf] at HB
  obtain ⟨a1, a2, a3, a4, a5, a6, a7, a8, a9, a10⟩ := h.apart
  have HG := hid (fun p hp => h.goneAt p hp)
  obtain ⟨-, c1, -, -, -, -, c6, -, c8, -, -, -⟩ := h.wc
  have e0 : chooseL G.gone c.procs.toNat (belowV G.x c.procs).toNat c.procs.toNat 0 = chooseL G.gone P f P 0 := by rw [hf, hP]; simp
  rw [e0]
  have hPt : c.procs.toNat = P := by omega
  rw [hPt] at c8 HG
  rw [hP] at c1 HB
  have HR := hid (rfl : chooseL G.gone P f P 0 = chooseL G.gone P f P 0)
  generalize hr : chooseL G.gone P f P 0 = r at *
  have HST := hid (fun i hi => chooseL_step (gone := G.gone) (P := P) (f := f) (i := i) hi)
  have HRR := hid hr
  generalize G.gone = gone at *
  generalize nxt G.x = y at *
  clear HR e0 hr h hf
  have hP1 : 1 ≤ P := by omega
  have hP16 : P ≤ 16 := by omega
  clear h1 h16 hPt hP
  go_enter Try.func38, Try.ntmps38
  go_wp2_with fail
  go_still_tail 9, (by kernel_rfl)
  go_wp2_with fail
  refine (HB.out).mono ?_
  rintro e w1 ⟨rfl, b1, s1⟩
  have HS := hid s1
  have HO := hid ((Only.refl R.gs w).drew.trans b1)
  have k1 : ∀ b o, b ≠ R.gs → w1.cell? ⟨b, o, none⟩ = w.cell? ⟨b, o, none⟩ := fun b o hb => by
    have := HO.out.block b hb
    simp only [World.cell?, this]
  replace c1 := (k1 _ 1 a1).trans c1
  replace c8 := (k1 _ 8 a1).trans c8
  have HG2 := hid (fun p hp => (k1 R.gg p (fun e => a6 e.symm)).trans (HG.out p hp))
  clear HG k1 c6 s1 b1 HB
  go_wp2_with fail
  go_loopw [22] (fun a wr => ∃ i : Nat, i ≤ P ∧ a = .int .i64 (i : Int) ∧ Hid (chooseL gone P f (P - i) i = r) ∧ wr = w1) (fun a _ => P - (intOf a).toNat)
  case atStart => exact ⟨0, by omega, rfl, hid HRR.out, rfl⟩
  case round =>
    obtain ⟨i, hi, rfl, HC, rfl⟩ := hrel
    by_cases hlt : i < P
    · have hi1 : (i : Int) < (P : Int) := by omega
      have hq := HST.out i hlt
      rw [HC.out] at hq
      have hmod : ((f : Int) + (i : Int)).tmod (P : Int) = (((f + i) % P : Nat) : Int) := by
        rw [Int.tmod_eq_emod_of_nonneg (by omega)]
        simp
      have hpl : (f + i) % P < P := Nat.mod_lt _ (by omega)
      have cg := HG2.out _ hpl
      generalize (f + i) % P = p at *
      have hw0 : IntKind.i64.wrap ((f : Int) + (i : Int)) = (f : Int) + (i : Int) := by rw [IntKind.wrap_i64]; omega
      have hw1 : IntKind.i64.wrap (((f : Int) + (i : Int)).tmod (P : Int)) = (p : Int) := by rw [hmod, IntKind.wrap_i64]; omega
      have hp0 : (0 : Int) ≤ (p : Int) := by omega
      have hp1 : (p : Int) < (P : Int) := by omega
      have hne : ¬ (P : Int) = 0 := by omega
      have hne2 : ((P : Int) == 0) = false := by simp; omega
      generalize gone.getD p false = gp at *
      have HQ := hid hq
      clear hq
      cases gp
      · go_wp2_with fail
        go_ret2
        refine ⟨?_, HO.out, HS.out⟩
        have := HQ.out
        rw [if_pos (by first | rfl | trivial)] at this
        rw [this]
        rfl
      · have hq2 := HQ.out
        rw [if_neg (by decide)] at hq2
        have HC2 := hid hq2.symm
        clear hq2 HQ HC
        go_wp2_with fail
        go_roundw
        case rel => exact ⟨i + 1, by omega, by go_num, HC2, by first | rfl | trivial⟩
        case measure => simp [intOf]; omega
    · obtain rfl : i = P := by omega
      have hr2 := HC.out
      rw [Nat.sub_self] at hr2
      have hi1 : ¬ (i : Int) < (i : Int) := by omega
      have HR2 := hid hr2
      clear hr2 HC
      go_wp2_with fail
      go_ret2
      refine ⟨?_, HO.out, HS.out⟩
      rw [← HR2.out]
      rfl
end Go.Proofs.Ytlhgdbangnohjaa
