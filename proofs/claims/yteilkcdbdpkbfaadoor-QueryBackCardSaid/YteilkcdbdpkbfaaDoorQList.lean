/- Parts with a word between are read. -/
import Derived.Test.YteilkcdbdpkbfaaDoorQCompare
import Derived.Test.YteilkcdbdpkbfaaDoorPush
namespace Go.Proofs.YteilkcdbdpkbfaaDoor
open Go.RowKit
set_option linter.unusedVariables false
set_option linter.unusedSimpArgs false
attribute [local go_sem ↓ high] setCell_twice
theorem infoNode : Info Tryd.prog 24 (.agg #[.int .i64 0, .slice none 0 0, .string ByteArray.empty, .string ByteArray.empty, .int .i64 0]) 5 72 := by unfold Info; kernel_rfl
/-- Signs that are left, as the reader's block tells. -/
def leftN (rb : Nat) (w : World) : Nat := match w.cell? ⟨rb, 0, none⟩ with
  | some (.slice _ n _) => n
  | _ => 0
theorem RdAt.left {w : World} {rb fin deep : Nat} {L : List Tok} (h : RdAt w rb fin deep L) : leftN rb w = L.length := by
  obtain ⟨p, cap, hh, _⟩ := h
  unfold leftN
  rw [heap_cell hh]
  rfl
/-- What a part's reading is good for. -/
def PartC (F : FuncId) (rb fin deep : Nat) (part : List Tok → PR NodeR) : Prop := ∀ (lo : Nat) (L : List Tok) (w : World), RdAt w rb fin deep L → rb < lo → lo ≤ w.heap.size → Calls Tryd.prog F #[.pointer (some ⟨rb, 0, none⟩)] w (RdPost (NVal lo) rb fin deep (part L) w)
def wrapL (kind : Int) : PR (List NodeR) → PR NodeR
  | .bad e p => .bad e p
  | .ok l S => .ok (.mk kind l ⟨#[]⟩ ⟨#[]⟩ 0) S
theorem listP_more {kind : Int} {between : ByteArray} {part : List Tok → PR NodeR} {L R : List Tok} {n : NodeR} (h : part L = .ok n R) (hi : isT R between = true) : listP kind between part L = wrapL kind (moreP between part R.length R [n]) := by
  unfold listP
  simp only [h, hi, if_true]
  generalize moreP between part R.length R [n] = res
  cases res <;> rfl
theorem callAnd (args : Array Value) (w : World) : (callFunc 59 args).run Tryd.prog w = .ok (.enter 59 args) w := by
  simp only [callFunc, go_sem, Tryd.func59]
  rfl
theorem callNot (args : Array Value) (w : World) : (callFunc 73 args).run Tryd.prog w = .ok (.enter 73 args) w := by
  simp only [callFunc, go_sem, Tryd.func73]
  rfl
set_option maxRecDepth 100000 in
set_option maxHeartbeats 4000000 in
theorem list_c (F : FuncId) (hF : ∀ args w, (callFunc F args).run Tryd.prog w = .ok (.enter F args) w) (kind : Int) (between : ByteArray) (lo rb fin deep : Nat) (part : List Tok → PR NodeR) (hP : PartC F rb fin deep part) (hlen : ∀ L n R, part L = .ok n R → R.length ≤ L.length)
    (L : List Tok) (w : World) (h : RdAt w rb fin deep L) (hr : rb < lo) (hlo : lo ≤ w.heap.size) :
    Calls Tryd.prog 58 #[.pointer (some ⟨rb, 0, none⟩), .int .i64 kind, .string between, .func (.func F) #[.pointer (some ⟨rb, 0, none⟩)] #[]] w (RdPost (NVal lo) rb fin deep (listP kind between part L) w) := by
  have h0 := hid h
  have hP0 := hid hP
  have hL0 := hid hlen
  have hrb : rb < w.heap.size := by omega
  have hLL : L.length ≤ 4096 := by obtain ⟨_, _, _, _, h, _⟩ := h; exact h
  replace hLL := hid hLL
  clear h hP hlen
  go_enter Tryd.func58, Tryd.ntmps58
  go_wp2_with fail
  refine (hP0.out (w.heap.size + 1) L _ (h0.out.grow (Grow.alloc _ _)) (by omega) (by simp)).mono ?_
  intro e w1 hpost
  generalize hpart : part L = res at hpost
  cases res with
  | bad k p =>
    obtain ⟨g1, rfl, r1⟩ := hpost
    have HC := hid (show listP kind between part L = .bad k p from by simp [listP, hpart])
    have FIN := hid (show RdPost (α := NodeR) (NVal lo) rb fin deep (.bad k p) w (Fault k p) w1 from ⟨Lib.grownBy_trans ((Grow.alloc _ _).by_ _) g1, rfl, r1⟩)
    clear hpart g1 r1
    unfold Fault
    go_wp2_with fail
    exact ⟨rfl, by rw [HC.out]; exact FIN.out⟩
  | ok n R =>
    obtain ⟨g1, v, rfl, hv, r1⟩ := hpost
    have hRR := hL0.out _ _ _ hpart
    replace hpart := hid hpart
    have hR1 := heapBy g1 (heap_new w NodeZ) (by omega)
    have G1 := hid (Lib.grownBy_trans ((Grow.alloc w NodeZ).by_ (some rb)) g1)
    obtain ⟨nk, np, nl, nc, nf, ns, nx, rfl⟩ := NodeR.In.value hv
    replace hv := hid hv
    have r2 := hid (r1.grow (Grow.alloc w1 (.cells #[.int .i64 nk, .slice np nl nc, .string nf, .string ns, .int .i64 nx] 24)))
    have hs1 : w.heap.size + 1 ≤ w1.heap.size := by have := g1.size; simpa using this
    replace hR1 := hid hR1
    clear g1 r1
    have hB2 := heap_new w1 (.cells #[.int .i64 nk, .slice np nl nc, .string nf, .string ns, .int .i64 nx] 24)
    have hR2 := heap_alloc_keep hR1.out (.cells #[.int .i64 nk, .slice np nl nc, .string nf, .string ns, .int .i64 nx] 24)
    have G2 := hid (Lib.grownBy_below G1.out (Grow.alloc w1 (.cells #[.int .i64 nk, .slice np nl nc, .string nf, .string ns, .int .i64 nx] 24)))
    have V2 := hid (NodeR.In.grow (Grow.alloc w1 (.cells #[.int .i64 nk, .slice np nl nc, .string nf, .string ns, .int .i64 nx] 24)) hv.out)
    have hs2 : w1.heap.size < (w1.alloc (.cells #[.int .i64 nk, .slice np nl nc, .string nf, .string ns, .int .i64 nx] 24)).heap.size := by simp
    go_wp2_with fail
    replace hB2 := hid hB2
    replace hR2 := hid hR2
    clear hR1 G1 hv
    generalize w1.alloc (.cells #[.int .i64 nk, .slice np nl nc, .string nf, .string ns, .int .i64 nx] 24) = w2 at *
    generalize w1.heap.size = nb at *
    generalize hrs1 : w.heap.size = rs at *
    have hws : w.heap.size ≤ rs := Nat.le_of_eq hrs1
    replace hrs1 := hid hrs1
    have b0 : w2.cell? ⟨nb, 0, none⟩ = some (.int .i64 nk) := by rw [heap_cell hB2.out]; rfl
    have b1 : w2.cell? ⟨nb, 1, none⟩ = some (.slice np nl nc) := by rw [heap_cell hB2.out]; rfl
    have b2 : w2.cell? ⟨nb, 2, none⟩ = some (.string nf) := by rw [heap_cell hB2.out]; rfl
    have b3 : w2.cell? ⟨nb, 3, none⟩ = some (.string ns) := by rw [heap_cell hB2.out]; rfl
    have b4 : w2.cell? ⟨nb, 4, none⟩ = some (.int .i64 nx) := by rw [heap_cell hB2.out]; rfl
    refine (is_c between rb fin deep R w2 r2.out).mono ?_
    rintro e w2' ⟨rfl, rfl⟩
    by_cases hi : isT R between = true
    · rw [hi]
      have hRpos : 0 < R.length := by cases R with | nil => simp [isT] at hi | cons a l => simp
      have HC := hid (listP_more (kind := kind) hpart.out hi)
      generalize hres : moreP between part R.length R [n] = res at *
      have HST := hid (moreP_step between part hL0.out)
      have HBAD := hid (moreP_bad between part)
      have HEND := hid (moreP_end between part)
      have H1 := hid (show w2.heap.size < w2.heap.size + 1 by omega)
      have OWN3 := hid (own_oneB w2 #[.int .i64 nk, .slice np nl nc, .string nf, .string ns, .int .i64 nx] 24 5 rfl (base := rs + 1) (by omega))
      have G3 := hid (Lib.grownBy_below G2.out (Grow.alloc w2 (.cells #[.int .i64 nk, .slice np nl nc, .string nf, .string ns, .int .i64 nx] 24)))
      have R3 := hid (r2.out.grow (Grow.alloc w2 (.cells #[.int .i64 nk, .slice np nl nc, .string nf, .string ns, .int .i64 nx] 24)))
      have V3 := hid (NodeR.In.grow (Grow.alloc w2 (.cells #[.int .i64 nk, .slice np nl nc, .string nf, .string ns, .int .i64 nx] 24)) V2.out)
      have hR3 := hid (heap_alloc_keep hR2.out (.cells #[.int .i64 nk, .slice np nl nc, .string nf, .string ns, .int .i64 nx] 24))
      replace hres := hid hres
      clear hi
      go_wp2_with fail
      go_loopw [10] (fun v wr => ∃ (acc : List NodeR) (Lr : List Tok) (xs : List Value), 0 < acc.length ∧ acc.length + Lr.length ≤ 4097 ∧ Hid (moreP between part Lr.length Lr acc = res) ∧ Hid (wr.ownsRow (rs + 1) 24 5 v acc.length xs) ∧ Hid (nodesIn (Off (rs + 1) v) wr acc xs) ∧ Hid (RdAt wr rb fin deep Lr) ∧ Hid (w.grownBy wr (some rb)) ∧ Hid (wr.heap[rs]? = some NodeZ)) (fun _ wr => leftN rb wr)
      case atStart =>
        refine ⟨[n], R, _, by simp, ?_, hres, OWN3, hid ?_, R3, G3, hR3⟩
        · have := hLL.out
          simp
          omega
        · refine ⟨_, _, _, _, _, [], rfl, NodeR.In.kept (by simp) (fun b hb hS => ⟨hS, fun e => ?_⟩) (fun b o v _ _ hc => (Grow.alloc w2 _).cell hc) n _ V2.out, rfl⟩
          have e1 : w2.heap.size = b := Option.some.inj e
          omega
      case round =>
        obtain ⟨acc, Lr, xs, hacc, hsum, HM, HO, HN, HR, HG, HZ⟩ := hrel
        by_cases ht : isT Lr between = true
        · have SK := hid (skip_c between rb fin deep Lr wr HR.out)
          have hLp : 0 < Lr.length := by cases Lr with | nil => simp [isT] at ht | cons a l => simp
          obtain ⟨g0, cap0, rfl, hg0, hlt0⟩ := HO.out.form hacc
          rw [ht, if_pos rfl] at SK
          go_wp2_with fail
          refine (SK.out).mono ?_
          rintro e w4 ⟨rfl, r4, g4⟩
          replace r4 := hid r4
          replace g4 := hid g4
          replace ht := hid ht
          have hs4 := g4.out.size
          go_wp2_with fail
          refine (hP0.out w4.heap.size Lr.tail w4 r4.out r4.out.lt (Nat.le_refl _)).mono ?_
          intro e w5 hpost
          generalize hpart5 : part Lr.tail = res5 at hpost
          cases res5 with
          | bad k p =>
            obtain ⟨g5, rfl, r5⟩ := hpost
            have hres5 := hid (HM.out.symm.trans (HBAD.out Lr acc ht.out hpart5))
            have FIN := hid (show RdPost (α := NodeR) (NVal lo) rb fin deep (.bad k p) w (Fault k p) w5 from ⟨Lib.grownBy_trans HG.out (Lib.grownBy_trans g4.out g5), rfl, r5⟩)
            clear hpart5 g5 r5
            unfold Fault
            go_wp2_with fail
            exact ⟨rfl, by rw [HC.out, hres5.out]; exact FIN.out⟩
          | ok n5 R5 =>
            obtain ⟨g5, v5, rfl, hv5, r5⟩ := hpost
            have hRR5 := hL0.out _ _ _ hpart5
            rw [List.length_tail] at hRR5
            have HM5 := hid ((HST.out Lr acc ht.out hpart5).symm.trans HM.out)
            obtain ⟨mk, mp, ml, mc, mf, ms, mx, rfl⟩ := NodeR.In.value hv5
            have hs5 := g5.size
            have O5 := hid (((HO.out.kept g4.out (.inr (by show some g0 ≠ some rb; simp; omega))).kept g5 (.inr (by show some g0 ≠ some rb; simp; omega))).alloc (.cells #[.int .i64 mk, .slice mp ml mc, .string mf, .string ms, .int .i64 mx] 24))
            have off : ∀ {a : World} (b : Nat), b < a.heap.size → Off (rs + 1) (.slice (some ⟨g0, 0, none⟩) acc.length cap0) b → some b ≠ some rb := fun b _ hb e => by have := hb.1; have e1 := Option.some.inj e; omega
            have N5 := hid (nodesIn.mono (fun n v h => NodeR.In.grow (Grow.alloc w5 (.cells #[.int .i64 mk, .slice mp ml mc, .string mf, .string ms, .int .i64 mx] 24)) (NodeR.In.grown off g5 (NodeR.In.grown off g4.out h))) _ _ HN.out)
            have M5 := hid (NodeR.In.grow (Grow.alloc w5 (.cells #[.int .i64 mk, .slice mp ml mc, .string mf, .string ms, .int .i64 mx] 24)) hv5)
            have R5' := hid (r5.grow (Grow.alloc w5 (.cells #[.int .i64 mk, .slice mp ml mc, .string mf, .string ms, .int .i64 mx] 24)))
            have G5 := hid (Lib.grownBy_below (Lib.grownBy_trans HG.out (Lib.grownBy_trans g4.out g5)) (Grow.alloc w5 (.cells #[.int .i64 mk, .slice mp ml mc, .string mf, .string ms, .int .i64 mx] 24)))
            have Z5 := hid (heap_alloc_keep (heapBy g5 (heapBy g4.out HZ.out (by omega)) (by omega)) (.cells #[.int .i64 mk, .slice mp ml mc, .string mf, .string ms, .int .i64 mx] 24))
            have NB := hid (heap_new w5 (.cells #[.int .i64 mk, .slice mp ml mc, .string mf, .string ms, .int .i64 mx] 24))
            have hL5 : acc.length + 1 ≤ 4097 := by omega
            have hM5 := hid (show leftN rb wr = Lr.length from HR.out.left)
            clear SK off hv5 r5 hpart5 HO HN HR HG HZ
            obtain ⟨i0, hi0, hz0, hz1, hz2⟩ := info_parts infoNode
            replace hi0 := hid hi0
            replace hz0 := hid hz0
            replace hz1 := hid hz1
            replace hz2 := hid hz2
            go_wp2_with (at_builtin; refine wpList_append_lies _ rfl _ _ 22 rfl (rs + 1) 24 i0 _ 5 72 Tryd.underlying22 hi0.out hz0.out hz1.out hz2.out rfl (by decide) _ acc.length xs rfl O5.out ⟨w5.heap.size, 0, none⟩ 1 1 [.int .i64 mk, .slice mp ml mc, .string mf, .string ms, .int .i64 mx] rfl rfl (World.news_of_block NB.out) (by simp [Value.oneCell']) (by omega) (by unfold maxLen; omega) (by omega) (by simp; omega) (w5.heap.size + 1) (by simp) ?_)
            intro g7 cap7 w7 hown7 hgrow7 hat7 hlt7
            have NP := hid (nodes_push (v' := .slice (some ⟨g7, 0, none⟩) (acc.length + 1) cap7) N5.out hgrow7 rfl hat7 (by simp) (lo2 := w4.heap.size) (by omega) (fun k hk => by have e1 : g0 = k := Option.some.inj hk; omega) M5.out)
            have G7 := hid (grownBy_newRow (g := g0) G5.out hgrow7 (by omega))
            have R7 := hid (R5'.out.grownBy (g := g0) hgrow7 (by omega))
            have Z7 := hid ((hgrow7.block rs (heap_lt Z5.out) (by show some rs ≠ some g0; simp; omega)).trans Z5.out)
            replace hown7 := hid hown7
            clear N5 M5 O5 G5 R5' Z5 NB hgrow7 hat7 hlt7 r4 g4 HM
            go_wp2_with fail
            go_roundw
            case rel => exact ⟨acc ++ [n5], R5, _, by simp, by simp; omega, HM5, hid (by rw [List.length_append]; exact hown7.out), NP, R7, G7, Z7⟩
            case measure => rw [R7.out.left, hM5.out]; omega
        · replace ht : isT Lr between = false := by simpa using ht
          have SK := hid (skip_c between rb fin deep Lr wr HR.out)
          have hres5 := hid (HM.out.symm.trans (HEND.out Lr acc ht))
          rw [ht, if_neg (by simp)] at SK
          obtain ⟨g0, cap0, rfl, hg0, hlt0⟩ := HO.out.form hacc
          replace ht := hid ht
          go_wp2_with fail
          refine (SK.out).mono ?_
          rintro e w4 ⟨rfl, r4, g4⟩
          have O4 := HO.out.kept g4 (.inr (by show some g0 ≠ some rb; simp; omega))
          have off : ∀ {a : World} (b : Nat), b < a.heap.size → Off (rs + 1) (.slice (some ⟨g0, 0, none⟩) acc.length cap0) b → some b ≠ some rb := fun b _ hb e => by have := hb.1; have e1 := Option.some.inj e; omega
          have V4 := hid (NodeR.In.joins (lo := rs + 1) hacc (Nat.le_refl _) O4 (nodesIn.mono (fun n v h => NodeR.In.grown off g4 h) _ _ HN.out) kind ⟨#[]⟩ ⟨#[]⟩ 0)
          have G4 := hid (Lib.grownBy_trans HG.out g4)
          have Z4 := heapBy g4 HZ.out (by omega)
          have z0 : w4.cell? ⟨rs, 0, none⟩ = some (.int .i64 0) := by rw [heap_cell Z4]; rfl
          have z1 : w4.cell? ⟨rs, 1, none⟩ = some (.slice none 0 0) := by rw [heap_cell Z4]; rfl
          have z2 : w4.cell? ⟨rs, 2, none⟩ = some (.string ⟨#[]⟩) := by rw [heap_cell Z4]; rfl
          have z3 : w4.cell? ⟨rs, 3, none⟩ = some (.string ⟨#[]⟩) := by rw [heap_cell Z4]; rfl
          have z4 : w4.cell? ⟨rs, 4, none⟩ = some (.int .i64 0) := by rw [heap_cell Z4]; rfl
          have y0 : w4.frozen? ⟨rs, 0, none⟩ = false := heap_frozen Z4 0 (by omega)
          have y1 : w4.frozen? ⟨rs, 1, none⟩ = false := heap_frozen Z4 1 (by omega)
          have y2 : w4.frozen? ⟨rs, 2, none⟩ = false := heap_frozen Z4 2 (by omega)
          have y3 : w4.frozen? ⟨rs, 3, none⟩ = false := heap_frozen Z4 3 (by omega)
          have y4 : w4.frozen? ⟨rs, 4, none⟩ = false := heap_frozen Z4 4 (by omega)
          have E := hid (store5 G4.out r4 Z4 hws (by omega) (.int .i64 kind) (.slice (some ⟨g0, 0, none⟩) acc.length cap0) (.string ⟨#[]⟩) (.string ⟨#[]⟩) (.int .i64 0) V4.out (lo := lo) (by omega))
          have hC := hid (HC.out.trans (congrArg (wrapL kind) hres5.out))
          clear O4 off Z4 g4 r4
          go_wp2_with fail
          have hC1 : listP kind between part L = .ok (.mk kind acc ⟨#[]⟩ ⟨#[]⟩ 0) Lr := hC.out
          have E1 := E.out
          with_reducible refine node_ret rfl ?_ hC1 E1
          rfl
    · replace hi : isT R between = false := by simpa using hi
      have HC := hid (show listP kind between part L = .ok n R from by simp [listP, hpart.out, hi])
      rw [hi]
      clear hi
      have z0 : w2.cell? ⟨rs, 0, none⟩ = some (.int .i64 0) := by rw [heap_cell hR2.out]; rfl
      have z1 : w2.cell? ⟨rs, 1, none⟩ = some (.slice none 0 0) := by rw [heap_cell hR2.out]; rfl
      have z2 : w2.cell? ⟨rs, 2, none⟩ = some (.string ⟨#[]⟩) := by rw [heap_cell hR2.out]; rfl
      have z3 : w2.cell? ⟨rs, 3, none⟩ = some (.string ⟨#[]⟩) := by rw [heap_cell hR2.out]; rfl
      have z4 : w2.cell? ⟨rs, 4, none⟩ = some (.int .i64 0) := by rw [heap_cell hR2.out]; rfl
      have y0 : w2.frozen? ⟨rs, 0, none⟩ = false := heap_frozen hR2.out 0 (by omega)
      have y1 : w2.frozen? ⟨rs, 1, none⟩ = false := heap_frozen hR2.out 1 (by omega)
      have y2 : w2.frozen? ⟨rs, 2, none⟩ = false := heap_frozen hR2.out 2 (by omega)
      have y3 : w2.frozen? ⟨rs, 3, none⟩ = false := heap_frozen hR2.out 3 (by omega)
      have y4 : w2.frozen? ⟨rs, 4, none⟩ = false := heap_frozen hR2.out 4 (by omega)
      go_wp2_with fail
      have E := store5 G2.out r2.out hR2.out hws (by omega) (.int .i64 nk) (.slice np nl nc) (.string nf) (.string ns) (.int .i64 nx) V2.out (lo := lo) (by omega)
      have hC := HC.out
      with_reducible refine node_ret rfl ?_ hC E
      rfl
end Go.Proofs.YteilkcdbdpkbfaaDoor
