/- A condition is read: or, and, not. -/
import Derived.Test.YteilkcdbdpkbfaaDoorQList
import Derived.Defers
import Derived.Recover
namespace Go.Proofs.YteilkcdbdpkbfaaDoor
open Go.RowKit
set_option linter.unusedVariables false
set_option linter.unusedSimpArgs false
attribute [local go_sem ↓ high] setCell_twice run_tok1 run_tok2
theorem makeFn (fn : Fn) (first cap : Array Value) (w : World) : (Instr.makeFunc fn first cap).run Tryd.prog w = .ok (.func fn first cap) w := rfl
/-- What a reading of a node gives, one way or the other, in a box made ahead of it. -/
theorem box_read {w w1 : World} {rs rb fin deep : Nat} {lo : Nat} {n : NodeR} {v : Value} {R : List Tok} (hrs : rs = w.heap.size) (hlo : lo ≤ rs) (hrb : rb < rs) (g : (w.alloc NodeZ).grownBy w1 (some rb)) (hv : n.In (fun b => rs + 1 ≤ b) w1 v) (r : RdAt w1 rb fin deep R) :
    ∃ (k : Int) (p : Option Addr) (l c : Nat) (f s : ByteArray) (x : Int), v = .agg #[.int .i64 k, .slice p l c, .string f, .string s, .int .i64 x] ∧ w1.heap[rs]? = some NodeZ ∧
    (w.grownBy (((((w1.setCell ⟨rs, 0, none⟩ (.int .i64 k)).setCell ⟨rs, 1, none⟩ (.slice p l c)).setCell ⟨rs, 2, none⟩ (.string f)).setCell ⟨rs, 3, none⟩ (.string s)).setCell ⟨rs, 4, none⟩ (.int .i64 x)) (some rb) ∧
    (((((w1.setCell ⟨rs, 0, none⟩ (.int .i64 k)).setCell ⟨rs, 1, none⟩ (.slice p l c)).setCell ⟨rs, 2, none⟩ (.string f)).setCell ⟨rs, 3, none⟩ (.string s)).setCell ⟨rs, 4, none⟩ (.int .i64 x)).heap[rs]? = some (.cells #[.int .i64 k, .slice p l c, .string f, .string s, .int .i64 x] 24) ∧
    RdAt (((((w1.setCell ⟨rs, 0, none⟩ (.int .i64 k)).setCell ⟨rs, 1, none⟩ (.slice p l c)).setCell ⟨rs, 2, none⟩ (.string f)).setCell ⟨rs, 3, none⟩ (.string s)).setCell ⟨rs, 4, none⟩ (.int .i64 x)) rb fin deep R ∧
    n.In (fun b => lo ≤ b) (((((w1.setCell ⟨rs, 0, none⟩ (.int .i64 k)).setCell ⟨rs, 1, none⟩ (.slice p l c)).setCell ⟨rs, 2, none⟩ (.string f)).setCell ⟨rs, 3, none⟩ (.string s)).setCell ⟨rs, 4, none⟩ (.int .i64 x)) (.agg #[.int .i64 k, .slice p l c, .string f, .string s, .int .i64 x])) := by
  subst hrs
  obtain ⟨k, p, l, c, f, s, x, rfl⟩ := NodeR.In.value hv
  have hR := heapBy g (heap_new w NodeZ) (by omega)
  exact ⟨k, p, l, c, f, s, x, rfl, hR, store5 (Lib.grownBy_trans ((Grow.alloc w NodeZ).by_ _) g) r hR (Nat.le_refl _) hrb _ _ _ _ _ hv hlo⟩
set_option maxRecDepth 100000 in
theorem and_c (rb fin deep : Nat) (part : List Tok → PR NodeR) (hP : PartC 73 rb fin deep part) (hlen : ∀ L n R, part L = .ok n R → R.length ≤ L.length) :
    PartC 59 rb fin deep (listP 2 bAnd part) := by
  intro lo L w h hr hlo
  have C := hid (list_c 73 callNot 2 bAnd (w.heap.size + 1) rb fin deep part hP hlen L (w.alloc NodeZ) (h.grow (Grow.alloc _ _)) (by omega) (by simp))
  have hmf := makeFn
  have hrb : rb < w.heap.size := by omega
  clear hP hlen h
  go_enter Tryd.func59, Tryd.ntmps59
  go_wp2_with fail
  refine (C.out).mono ?_
  intro e w1 hpost
  generalize hpart : listP 2 bAnd part L = res at hpost
  cases res with
  | bad k p =>
    obtain ⟨g1, rfl, r1⟩ := hpost
    have FIN := hid (show RdPost (α := NodeR) (NVal lo) rb fin deep (.bad k p) w (Fault k p) w1 from ⟨Lib.grownBy_trans ((Grow.alloc _ _).by_ _) g1, rfl, r1⟩)
    replace hpart := hid hpart
    clear g1 r1 C
    unfold Fault
    go_wp2_with fail
    exact ⟨rfl, FIN.out⟩
  | ok n R =>
    obtain ⟨g1, v, rfl, hv, r1⟩ := hpost
    obtain ⟨nk, np, nl, nc, nf, ns, nx, rfl, Z, E⟩ := box_read (rs := w.heap.size) rfl hlo hrb g1 hv r1
    have z0 : w1.cell? ⟨w.heap.size, 0, none⟩ = some (.int .i64 0) := by rw [heap_cell Z]; rfl
    have z1 : w1.cell? ⟨w.heap.size, 1, none⟩ = some (.slice none 0 0) := by rw [heap_cell Z]; rfl
    have z2 : w1.cell? ⟨w.heap.size, 2, none⟩ = some (.string ⟨#[]⟩) := by rw [heap_cell Z]; rfl
    have z3 : w1.cell? ⟨w.heap.size, 3, none⟩ = some (.string ⟨#[]⟩) := by rw [heap_cell Z]; rfl
    have z4 : w1.cell? ⟨w.heap.size, 4, none⟩ = some (.int .i64 0) := by rw [heap_cell Z]; rfl
    have y0 : w1.frozen? ⟨w.heap.size, 0, none⟩ = false := heap_frozen Z 0 (by omega)
    have y1 : w1.frozen? ⟨w.heap.size, 1, none⟩ = false := heap_frozen Z 1 (by omega)
    have y2 : w1.frozen? ⟨w.heap.size, 2, none⟩ = false := heap_frozen Z 2 (by omega)
    have y3 : w1.frozen? ⟨w.heap.size, 3, none⟩ = false := heap_frozen Z 3 (by omega)
    have y4 : w1.frozen? ⟨w.heap.size, 4, none⟩ = false := heap_frozen Z 4 (by omega)
    replace E := hid E
    replace hpart := hid hpart
    clear g1 r1 hv Z C
    go_wp2_with fail
    have E1 := E.out
    have hC1 := hpart.out
    with_reducible refine node_ret rfl ?_ hC1 E1
    rfl
set_option maxRecDepth 100000 in
theorem or_c (rb fin deep : Nat) (part : List Tok → PR NodeR) (hP : PartC 59 rb fin deep part) (hlen : ∀ L n R, part L = .ok n R → R.length ≤ L.length) :
    PartC 45 rb fin deep (listP 1 bOr part) := by
  intro lo L w h hr hlo
  have C := hid (list_c 59 callAnd 1 bOr (w.heap.size + 1) rb fin deep part hP hlen L (w.alloc NodeZ) (h.grow (Grow.alloc _ _)) (by omega) (by simp))
  have hmf := makeFn
  have hrb : rb < w.heap.size := by omega
  clear hP hlen h
  go_enter Tryd.func45, Tryd.ntmps45
  go_wp2_with fail
  refine (C.out).mono ?_
  intro e w1 hpost
  generalize hpart : listP 1 bOr part L = res at hpost
  cases res with
  | bad k p =>
    obtain ⟨g1, rfl, r1⟩ := hpost
    have FIN := hid (show RdPost (α := NodeR) (NVal lo) rb fin deep (.bad k p) w (Fault k p) w1 from ⟨Lib.grownBy_trans ((Grow.alloc _ _).by_ _) g1, rfl, r1⟩)
    replace hpart := hid hpart
    clear g1 r1 C
    unfold Fault
    go_wp2_with fail
    exact ⟨rfl, FIN.out⟩
  | ok n R =>
    obtain ⟨g1, v, rfl, hv, r1⟩ := hpost
    obtain ⟨nk, np, nl, nc, nf, ns, nx, rfl, Z, E⟩ := box_read (rs := w.heap.size) rfl hlo hrb g1 hv r1
    have z0 : w1.cell? ⟨w.heap.size, 0, none⟩ = some (.int .i64 0) := by rw [heap_cell Z]; rfl
    have z1 : w1.cell? ⟨w.heap.size, 1, none⟩ = some (.slice none 0 0) := by rw [heap_cell Z]; rfl
    have z2 : w1.cell? ⟨w.heap.size, 2, none⟩ = some (.string ⟨#[]⟩) := by rw [heap_cell Z]; rfl
    have z3 : w1.cell? ⟨w.heap.size, 3, none⟩ = some (.string ⟨#[]⟩) := by rw [heap_cell Z]; rfl
    have z4 : w1.cell? ⟨w.heap.size, 4, none⟩ = some (.int .i64 0) := by rw [heap_cell Z]; rfl
    have y0 : w1.frozen? ⟨w.heap.size, 0, none⟩ = false := heap_frozen Z 0 (by omega)
    have y1 : w1.frozen? ⟨w.heap.size, 1, none⟩ = false := heap_frozen Z 1 (by omega)
    have y2 : w1.frozen? ⟨w.heap.size, 2, none⟩ = false := heap_frozen Z 2 (by omega)
    have y3 : w1.frozen? ⟨w.heap.size, 3, none⟩ = false := heap_frozen Z 3 (by omega)
    have y4 : w1.frozen? ⟨w.heap.size, 4, none⟩ = false := heap_frozen Z 4 (by omega)
    replace E := hid E
    replace hpart := hid hpart
    clear g1 r1 hv Z C
    go_wp2_with fail
    have E1 := E.out
    have hC1 := hpart.out
    with_reducible refine node_ret rfl ?_ hC1 E1
    rfl
set_option maxRecDepth 100000 in
theorem undeep_c (pb rb : Nat) (u : FrameMode) (w : World) (v0 v1 : Value) (d : Int) (hp : w.heap[pb]? = some (.cells #[.pointer (some ⟨rb, 0, none⟩)] 65)) (hr : w.heap[rb]? = some (.cells #[v0, v1, .int .i64 d] 67)) :
    CallsD Tryd.prog 82 #[.pointer (some ⟨pb, 0, none⟩)] u w fun e u' w' => u' = u ∧ e = .returned (.tuple #[]) ∧ w' = w.setCell ⟨rb, 2, none⟩ (.int .i64 (wrap64 (d - 1))) := by
  have c0 : w.cell? ⟨pb, 0, none⟩ = some (.pointer (some ⟨rb, 0, none⟩)) := by rw [heap_cell hp]; rfl
  have c1 : w.cell? ⟨rb, 2, none⟩ = some (.int .i64 d) := by rw [heap_cell hr]; rfl
  have f1 : w.frozen? ⟨rb, 2, none⟩ = false := heap_frozen hr 2 (by omega)
  go_enter_d Tryd.func82, Tryd.ntmps82
  clear hp hr
  go_wp2_with fail
  go_end0
  exact ⟨rfl, rfl⟩
theorem RdAt.setDeep {w : World} {rb fin deep : Nat} {L : List Tok} (h : RdAt w rb fin deep L) (d : Nat) : RdAt (w.setCell ⟨rb, 2, none⟩ (.int .i64 (d : Int))) rb fin d L := by
  obtain ⟨p, cap, hh, hc1, hc2, ht, hw⟩ := h
  have hg : w.grownBy (w.setCell ⟨rb, 2, none⟩ (.int .i64 (d : Int))) (some rb) := Lib.grownBy_setB (World.grownBy.refl w _) 2 _
  refine ⟨p, cap, heap_set hh 2 _, hc1, hc2, fun hL => ?_, hw⟩
  obtain ⟨b, o, hp, hb, hne1, ho, ht⟩ := ht hL
  exact ⟨b, o, hp, Nat.lt_of_lt_of_le hb hg.size, hne1, ho, TokRow.grown hg (by omega) _ _ ht⟩
set_option maxRecDepth 100000 in
set_option maxHeartbeats 4000000 in
/-- Too deep. -/
theorem notDeep_c (rb fin : Nat) : PartC 73 rb fin 32 (fun L => failP fin 44 L) := by
  intro lo L w h hr hlo
  have hrb : rb < w.heap.size := by omega
  have hmf := makeFn
  have r1 := hid (((h.setDeep 33).grow (Grow.alloc _ (.cells #[.pointer (some ⟨rb, 0, none⟩)] 65))).grow (Grow.alloc _ NodeZ))
  have G1 := hid (Lib.grownBy_below (Lib.grownBy_below (Lib.grownBy_setB (World.grownBy.refl w (some rb)) 2 (.int .i64 33)) (Grow.alloc _ (.cells #[.pointer (some ⟨rb, 0, none⟩)] 65))) (Grow.alloc _ NodeZ))
  obtain ⟨p, cap, hh, _⟩ := h
  have c2 : w.cell? ⟨rb, 2, none⟩ = some (.int .i64 32) := by rw [heap_cell hh]; rfl
  have f2 : w.frozen? ⟨rb, 2, none⟩ = false := heap_frozen hh 2 (by omega)
  clear hh
  go_enter_defers Tryd.func73, Tryd.ntmps73
  go_wp2_with fail
  refine (fail_c 44 rb fin 33 L _ r1.out).mono ?_
  rintro e w2 ⟨rfl, rfl⟩
  have FIN := hid (show RdPost (α := NodeR) (NVal lo) rb fin 32 (failP fin 44 L) w (Fault (failE 44 L) (failAt fin L)) _ from ⟨G1.out, rfl, r1.out.any⟩)
  unfold Fault
  go_wp2_with fail
  exact FIN.out
theorem wrap_deep (deep : Nat) (h : deep ≤ 31) : wrap64 (((deep + 1 : Nat) : Int) - 1) = (deep : Int) := by
  rw [show ((deep + 1 : Nat) : Int) - 1 = (deep : Int) from by omega]
  unfold wrap64
  omega
/-- The door, a node in hand. -/
theorem not_door {rb fin deep lo rs pb : Nat} {w W : World} {r : PR NodeR} {n : NodeR} {L : List Tok} {c0 c1 c2 c3 c4 : Value} {tm : Array Value} (hd : deep ≤ 31) (ht : tm.getD 2 undef = .pointer (some ⟨rs, 0, none⟩)) (hp : r = .ok n L) (hpb : W.heap[pb]? = some (.cells #[.pointer (some ⟨rb, 0, none⟩)] 65)) (hrs : rb < rs) (hlo : rb < lo)
    (E : w.grownBy W (some rb) ∧ W.heap[rs]? = some (.cells #[c0, c1, c2, c3, c4] 24) ∧ RdAt W rb fin (deep + 1) L ∧ n.In (fun b => lo ≤ b) W (.agg #[c0, c1, c2, c3, c4])) :
    bodyPostD Tryd.prog Tryd.f73 (RdPost (NVal lo) rb fin deep r w) Exit.ret { tmps := tm, defers := [{ target := .fn (.func 82) #[.pointer (some ⟨pb, 0, none⟩)], args := #[] }] } W := by
  subst hp
  obtain ⟨E1, E2, E3, E4⟩ := E
  have E3' := E3
  obtain ⟨p, cap, hh, _⟩ := E3'
  refine leaves_cons (f := 82) (args := #[.pointer (some ⟨pb, 0, none⟩)]) (by simp) (by simp [go_sem]) ?_
  refine (undeep_c pb rb .returning W _ _ _ hpb hh).mono ?_
  rintro e u' w'' ⟨rfl, rfl, rfl⟩
  rw [wrap_deep deep hd]
  refine ⟨_, results_cellK (fn := Tryd.f73) (p := 2) rfl _ _ rs 24 _ (0, 0) _ ht (heap_keep E2 ⟨rb, 2, none⟩ _ (by simp; omega)) Tryd.underlying24 rfl (by kernel_rfl), ?_⟩
  have g := Lib.grownBy_setB (World.grownBy.refl W (some rb)) 2 (.int .i64 (deep : Int))
  exact ⟨Lib.grownBy_trans E1 g, _, rfl, NodeR.In.grown (fun b _ hb => by have : lo ≤ b := hb; simp; omega) g E4, E3.setDeep deep⟩
/-- The door, a fault passing. -/
theorem not_bad {rb fin deep lo pb : Nat} {w W : World} {r : PR NodeR} {k p : Nat} {tm : Array Value} (hp : r = .bad k p) (hpb : W.heap[pb]? = some (.cells #[.pointer (some ⟨rb, 0, none⟩)] 65)) (g : w.grownBy W (some rb)) (a : RdAny W rb) :
    bodyPostD Tryd.prog Tryd.f73 (RdPost (NVal lo) rb fin deep r w) (Exit.panic [{ v := .iface 64 (.agg #[.int .i64 (k : Int), .int .i64 (p : Int)]), recovered := false }]) { tmps := tm, defers := [{ target := .fn (.func 82) #[.pointer (some ⟨pb, 0, none⟩)], args := #[] }] } W := by
  subst hp
  obtain ⟨v0, v1, d, hh⟩ := a
  refine leaves_cons (f := 82) (args := #[.pointer (some ⟨pb, 0, none⟩)]) (by simp) (by simp [go_sem]) ?_
  refine (undeep_c pb rb _ W _ _ _ hpb hh).mono ?_
  rintro e u' w'' ⟨rfl, rfl, rfl⟩
  exact ⟨Lib.grownBy_trans g (Lib.grownBy_setB (World.grownBy.refl W (some rb)) 2 _), rfl, ⟨_, _, _, heap_set hh 2 _⟩⟩
/-- The block of the captured reader is kept. -/
theorem keep5 {w2 : World} {rs pb : Nat} {o : Obj} (h : w2.heap[pb]? = some o) (hne : pb ≠ rs) (c0 c1 c2 c3 c4 : Value) :
    (((((w2.setCell ⟨rs, 0, none⟩ c0).setCell ⟨rs, 1, none⟩ c1).setCell ⟨rs, 2, none⟩ c2).setCell ⟨rs, 3, none⟩ c3).setCell ⟨rs, 4, none⟩ c4).heap[pb]? = some o :=
  heap_keep (heap_keep (heap_keep (heap_keep (heap_keep h _ _ hne) _ _ hne) _ _ hne) _ _ hne) _ _ hne
theorem past5 (w : World) (o : Obj) {rs : Nat} (h : rs < w.heap.size) (c0 c1 c2 c3 c4 : Value) :
    ((((((w.alloc o).setCell ⟨rs, 0, none⟩ c0).setCell ⟨rs, 1, none⟩ c1).setCell ⟨rs, 2, none⟩ c2).setCell ⟨rs, 3, none⟩ c3).setCell ⟨rs, 4, none⟩ c4) =
    (((((w.setCell ⟨rs, 0, none⟩ c0).setCell ⟨rs, 1, none⟩ c1).setCell ⟨rs, 2, none⟩ c2).setCell ⟨rs, 3, none⟩ c3).setCell ⟨rs, 4, none⟩ c4).alloc o := by
  rw [World.setCell_alloc_past _ _ _ _ h, World.setCell_alloc_past _ _ _ _ (by simpa using h), World.setCell_alloc_past _ _ _ _ (by simpa using h), World.setCell_alloc_past _ _ _ _ (by simpa using h), World.setCell_alloc_past _ _ _ _ (by simpa using h)]
/-- A node that joins one other. -/
theorem single_in {lo : Nat} {w : World} {n : NodeR} {c0 c1 c2 c3 c4 : Value} (h : n.In (fun b => lo ≤ b) w (.agg #[c0, c1, c2, c3, c4])) (hlo : lo ≤ w.heap.size) (k : Int) :
    (NodeR.mk k [n] ⟨#[]⟩ ⟨#[]⟩ 0).In (fun b => lo ≤ b) (w.alloc (.cells #[c0, c1, c2, c3, c4] 24)) (.agg #[.int .i64 k, .slice (some ⟨w.heap.size, 0, none⟩) 1 1, .string ⟨#[]⟩, .string ⟨#[]⟩, .int .i64 0]) := by
  refine NodeR.In.joins (acc := [n]) (base := lo) (by simp) (Nat.le_refl _) (own_oneB w #[c0, c1, c2, c3, c4] 24 5 rfl hlo) ?_ k _ _ _
  refine ⟨_, _, _, _, _, [], rfl, NodeR.In.kept (by simp) (fun b hb hS => ⟨hS, fun e => ?_⟩) (fun b o v _ _ hc => (Grow.alloc w _).cell hc) n _ h, rfl⟩
  have e1 : w.heap.size = b := Option.some.inj e
  omega
theorem partP_not {fin d : Nat} {L : List Tok} (h : isT L bNot = true) : partP fin (d + 1) L = (match partP fin d L.tail with | .ok n R => .ok (.mk 3 [n] ⟨#[]⟩ ⟨#[]⟩ 0) R | .bad e p => .bad e p) := by
  simp only [partP, h, if_true]
  cases partP fin d L.tail <;> rfl
theorem partP_all {fin d : Nat} {L : List Tok} (h : isT L bNot = false) (h1 : isT L bAll = true) : partP fin (d + 1) L = .ok (.mk 6 [] ⟨#[]⟩ ⟨#[]⟩ 0) L.tail := by
  simp [partP, h, h1]
theorem partP_open {fin d : Nat} {L : List Tok} (h : isT L bNot = false) (h1 : isT L bAll = false) (h2 : isT L bOpen = true) : partP fin (d + 1) L = (match orP fin d L.tail with | .ok n R => if isT R bShut then .ok n R.tail else failP fin 41 R | .bad e p => .bad e p) := by
  simp only [partP, h, h1, h2, if_true]
  rfl
theorem partP_near {fin d : Nat} {L : List Tok} (h : isT L bNot = false) (h1 : isT L bAll = false) (h2 : isT L bOpen = false) (h3 : (isT L bOverlaps || isT L bBefore || isT L bAfter) = true) : partP fin (d + 1) L = nearP fin L := by
  simp only [partP, h, h1, h2, h3, if_true]
  simp
theorem partP_comp {fin d : Nat} {L : List Tok} (h : isT L bNot = false) (h1 : isT L bAll = false) (h2 : isT L bOpen = false) (h3 : (isT L bOverlaps || isT L bBefore || isT L bAfter) = false) : partP fin (d + 1) L = compareP fin L := by
  simp only [partP, h, h1, h2, h3, if_true]
  simp
/-- A sign that speaks of order is a word. -/
theorem near_word {t : Tok} {L : List Tok} (ht : t.Ok) (h : (isT (t :: L) bOverlaps || isT (t :: L) bBefore || isT (t :: L) bAfter) = true) : t.kind = 1 := by
  apply ht.2.2.1
  have e : ∀ b : ByteArray, (t.str.toList == b.toList) = true → t.text = b.data.toList := by
    intro b hb
    have : t.str = b := toList_inj (by simpa using hb)
    rw [← this]
    simp [Tok.str]
  simp only [isT, Bool.or_eq_true] at h
  rcases h with (h | h) | h <;> (rw [e _ h]; decide)
set_option maxRecDepth 100000 in
set_option maxHeartbeats 4000000 in
/-- One part, not too deep. -/
theorem notStep_c (rb fin d deep : Nat) (hd : deep ≤ 31) (hIn : PartC 73 rb fin (deep + 1) (partP fin d)) : PartC 73 rb fin deep (partP fin (d + 1)) := by
  intro lo L w h hr hlo
  have hrb : rb < w.heap.size := by omega
  have hmf := makeFn
  have hIn0 := hid hIn
  have r1 := hid (show RdAt (((w.setCell ⟨rb, 2, none⟩ (.int .i64 ((deep : Int) + 1))).alloc (.cells #[.pointer (some ⟨rb, 0, none⟩)] 65)).alloc NodeZ) rb fin (deep + 1) L from ((h.setDeep (deep + 1)).grow (Grow.alloc _ (.cells #[.pointer (some ⟨rb, 0, none⟩)] 65))).grow (Grow.alloc _ NodeZ))
  have G1 := hid (Lib.grownBy_below (Lib.grownBy_below (Lib.grownBy_setB (World.grownBy.refl w (some rb)) 2 (.int .i64 ((deep : Int) + 1))) (Grow.alloc _ (.cells #[.pointer (some ⟨rb, 0, none⟩)] 65))) (Grow.alloc _ NodeZ))
  have P1 := heap_alloc_keep (heap_newAt (w.setCell ⟨rb, 2, none⟩ (.int .i64 ((deep : Int) + 1))) (.cells #[.pointer (some ⟨rb, 0, none⟩)] 65) (g := w.heap.size) (by simp)) NodeZ
  have Z1 := heap_newAt ((w.setCell ⟨rb, 2, none⟩ (.int .i64 ((deep : Int) + 1))).alloc (.cells #[.pointer (some ⟨rb, 0, none⟩)] 65)) NodeZ (g := w.heap.size + 1) (by simp)
  obtain ⟨p, cap, hh, _⟩ := h
  have c2 : w.cell? ⟨rb, 2, none⟩ = some (.int .i64 (deep : Int)) := by rw [heap_cell hh]; rfl
  have f2 : w.frozen? ⟨rb, 2, none⟩ = false := heap_frozen hh 2 (by omega)
  have hd1 : (deep : Int) ≤ 31 := by omega
  have hd0 : (0 : Int) ≤ (deep : Int) := by omega
  replace P1 := hid P1
  replace Z1 := hid Z1
  clear hh hIn
  go_enter_defers Tryd.func73, Tryd.ntmps73
  go_wp2_with fail
  generalize ((w.setCell ⟨rb, 2, none⟩ (.int .i64 ((deep : Int) + 1))).alloc (.cells #[.pointer (some ⟨rb, 0, none⟩)] 65)).alloc NodeZ = w1 at *
  have hs1 : w.heap.size + 1 < w1.heap.size := heap_lt Z1.out
  generalize hrs1 : w.heap.size = pb at *
  have hws : w.heap.size ≤ pb := Nat.le_of_eq hrs1
  clear hrs1 c2 f2
  have q1 : w1.cell? ⟨pb, 0, none⟩ = some (.pointer (some ⟨rb, 0, none⟩)) := by rw [heap_cell P1.out]; rfl
  by_cases hi : isT L bNot = true
  · refine (skipYes_c bNot rb fin (deep + 1) L w1 r1.out hi).mono ?_
    rintro e w2 ⟨rfl, r2, g2⟩
    have hs2 := g2.size
    have G2 := hid (Lib.grownBy_trans G1.out g2)
    have P2 := hid (heapBy g2 P1.out (by omega))
    have Z2 := hid (heapBy g2 Z1.out (by omega))
    have q2 : w2.cell? ⟨pb, 0, none⟩ = some (.pointer (some ⟨rb, 0, none⟩)) := by rw [heap_cell P2.out]; rfl
    replace r2 := hid r2
    have hC0 := hid (partP_not (fin := fin) (d := d) hi)
    clear g2 q1 hi
    go_wp2_with fail
    refine (hIn0.out (pb + 2) L.tail w2 r2.out (by omega) (by omega)).mono ?_
    intro e w3 hpost
    generalize hpart : partP fin d L.tail = res at hpost
    cases res with
    | bad k p =>
      obtain ⟨g3, rfl, r3⟩ := hpost
      have HC := hid (show partP fin (d + 1) L = .bad k p from by rw [hC0.out, hpart])
      have g03 := hid (Lib.grownBy_trans G2.out g3)
      have P3 := hid (heapBy g3 P2.out (by omega))
      replace r3 := hid r3
      clear g3 q2
      unfold Fault
      go_wp2_with fail
      exact not_bad HC.out P3.out g03.out r3.out
    | ok n R =>
      obtain ⟨g3, v, rfl, hv, r3⟩ := hpost
      obtain ⟨nk, np, nl, nc, nf, ns, nx, rfl⟩ := NodeR.In.value hv
      have HC := hid (show partP fin (d + 1) L = .ok (.mk 3 [n] ⟨#[]⟩ ⟨#[]⟩ 0) R from by rw [hC0.out, hpart])
      have hs3 := g3.size
      have S3 := hid (single_in hv (by omega) 3)
      have G3 := hid (Lib.grownBy_below (Lib.grownBy_trans G2.out g3) (Grow.alloc w3 (.cells #[.int .i64 nk, .slice np nl nc, .string nf, .string ns, .int .i64 nx] 24)))
      have P3 := hid (heap_alloc_keep (heapBy g3 P2.out (by omega)) (.cells #[.int .i64 nk, .slice np nl nc, .string nf, .string ns, .int .i64 nx] 24))
      have Z3 := heapBy g3 Z2.out (by omega)
      have hs4 : pb + 1 < w3.heap.size := by omega
      have z0 : w3.cell? ⟨pb + 1, 0, none⟩ = some (.int .i64 0) := by rw [heap_cell Z3]; rfl
      have z1 : w3.cell? ⟨pb + 1, 1, none⟩ = some (.slice none 0 0) := by rw [heap_cell Z3]; rfl
      have z2 : w3.cell? ⟨pb + 1, 2, none⟩ = some (.string ⟨#[]⟩) := by rw [heap_cell Z3]; rfl
      have z3 : w3.cell? ⟨pb + 1, 3, none⟩ = some (.string ⟨#[]⟩) := by rw [heap_cell Z3]; rfl
      have z4 : w3.cell? ⟨pb + 1, 4, none⟩ = some (.int .i64 0) := by rw [heap_cell Z3]; rfl
      have y0 : w3.frozen? ⟨pb + 1, 0, none⟩ = false := heap_frozen Z3 0 (by omega)
      have y1 : w3.frozen? ⟨pb + 1, 1, none⟩ = false := heap_frozen Z3 1 (by omega)
      have y2 : w3.frozen? ⟨pb + 1, 2, none⟩ = false := heap_frozen Z3 2 (by omega)
      have y3 : w3.frozen? ⟨pb + 1, 3, none⟩ = false := heap_frozen Z3 3 (by omega)
      have y4 : w3.frozen? ⟨pb + 1, 4, none⟩ = false := heap_frozen Z3 4 (by omega)
      have Z4 := hid (heap_alloc_keep Z3 (.cells #[.int .i64 nk, .slice np nl nc, .string nf, .string ns, .int .i64 nx] 24))
      have r4 := hid (r3.grow (Grow.alloc w3 (.cells #[.int .i64 nk, .slice np nl nc, .string nf, .string ns, .int .i64 nx] 24)))
      have E := hid (store5 G3.out r4.out Z4.out (by omega) (by omega) (.int .i64 3) (.slice (some ⟨w3.heap.size, 0, none⟩) 1 1) (.string ⟨#[]⟩) (.string ⟨#[]⟩) (.int .i64 0) S3.out (lo := lo) (by omega))
      have P5 := hid (keep5 P3.out (show pb ≠ pb + 1 by omega) (.int .i64 3) (.slice (some ⟨w3.heap.size, 0, none⟩) 1 1) (.string ⟨#[]⟩) (.string ⟨#[]⟩) (.int .i64 0))
      clear g3 hv r3 Z3 hpart q2
      go_wp2_with fail
      have hC1 := HC.out
      have E1 := E.out
      have P6 := P5.out
      rw [past5 _ _ hs4] at E1 P6
      with_reducible refine not_door hd ?_ hC1 P6 (by omega) hr E1
      rfl
  replace hi : isT L bNot = false := by simpa using hi
  refine (skipNo_c bNot rb fin (deep + 1) L w1 r1.out hi).mono ?_
  rintro e w2 ⟨rfl, rfl⟩
  replace hi := hid hi
  go_wp2_with fail
  by_cases ha : isT L bAll = true
  · refine (skipYes_c bAll rb fin (deep + 1) L w1 r1.out ha).mono ?_
    rintro e w2 ⟨rfl, r2, g2⟩
    have HC := hid (partP_all (fin := fin) (d := d) hi.out ha)
    have Z2 := heapBy g2 Z1.out (by omega)
    have z0 : w2.cell? ⟨pb + 1, 0, none⟩ = some (.int .i64 0) := by rw [heap_cell Z2]; rfl
    have z1 : w2.cell? ⟨pb + 1, 1, none⟩ = some (.slice none 0 0) := by rw [heap_cell Z2]; rfl
    have z2 : w2.cell? ⟨pb + 1, 2, none⟩ = some (.string ⟨#[]⟩) := by rw [heap_cell Z2]; rfl
    have z3 : w2.cell? ⟨pb + 1, 3, none⟩ = some (.string ⟨#[]⟩) := by rw [heap_cell Z2]; rfl
    have z4 : w2.cell? ⟨pb + 1, 4, none⟩ = some (.int .i64 0) := by rw [heap_cell Z2]; rfl
    have y0 : w2.frozen? ⟨pb + 1, 0, none⟩ = false := heap_frozen Z2 0 (by omega)
    have y1 : w2.frozen? ⟨pb + 1, 1, none⟩ = false := heap_frozen Z2 1 (by omega)
    have y2 : w2.frozen? ⟨pb + 1, 2, none⟩ = false := heap_frozen Z2 2 (by omega)
    have y3 : w2.frozen? ⟨pb + 1, 3, none⟩ = false := heap_frozen Z2 3 (by omega)
    have y4 : w2.frozen? ⟨pb + 1, 4, none⟩ = false := heap_frozen Z2 4 (by omega)
    have E := hid (store5 (Lib.grownBy_trans G1.out g2) r2 Z2 (by omega) (by omega) (.int .i64 6) (.slice none 0 0) (.string ⟨#[]⟩) (.string ⟨#[]⟩) (.int .i64 0) (NodeR.In.leaf _ w2 6 ⟨#[]⟩ ⟨#[]⟩ 0) (lo := lo) (by omega))
    have P5 := hid (keep5 (heapBy g2 P1.out (by omega)) (show pb ≠ pb + 1 by omega) (.int .i64 6) (.slice none 0 0) (.string ⟨#[]⟩) (.string ⟨#[]⟩) (.int .i64 0))
    clear g2 r2 Z2 q1 ha
    go_wp2_with fail
    have hC1 := HC.out
    have E1 := E.out
    have P6 := P5.out
    with_reducible refine not_door hd ?_ hC1 P6 (by omega) hr E1
    rfl
  replace ha : isT L bAll = false := by simpa using ha
  refine (skipNo_c bAll rb fin (deep + 1) L w1 r1.out ha).mono ?_
  rintro e w2 ⟨rfl, rfl⟩
  replace ha := hid ha
  go_wp2_with fail
  by_cases ho : isT L bOpen = true
  · refine (skipYes_c bOpen rb fin (deep + 1) L w1 r1.out ho).mono ?_
    rintro e w2 ⟨rfl, r2, g2⟩
    have hs2 := g2.size
    have G2 := hid (Lib.grownBy_trans G1.out g2)
    have P2 := hid (heapBy g2 P1.out (by omega))
    have Z2 := hid (heapBy g2 Z1.out (by omega))
    have q2 : w2.cell? ⟨pb, 0, none⟩ = some (.pointer (some ⟨rb, 0, none⟩)) := by rw [heap_cell P2.out]; rfl
    replace r2 := hid r2
    have hC0 := hid (partP_open (fin := fin) (d := d) hi.out ha.out ho)
    clear g2 q1 ho
    go_wp2_with fail
    refine (or_c rb fin (deep + 1) _ (and_c rb fin (deep + 1) _ hIn0.out (partP_len fin d)) (andP_len fin d) (pb + 2) L.tail w2 r2.out (by omega) (by omega)).mono ?_
    intro e w3 hpost
    replace hpost : RdPost (NVal (pb + 2)) rb fin (deep + 1) (orP fin d L.tail) w2 e w3 := hpost
    generalize hpart : orP fin d L.tail = res at hpost
    cases res with
    | bad k p =>
      obtain ⟨g3, rfl, r3⟩ := hpost
      have HC := hid (show partP fin (d + 1) L = .bad k p from by rw [hC0.out, hpart])
      have g03 := hid (Lib.grownBy_trans G2.out g3)
      have P3 := hid (heapBy g3 P2.out (by omega))
      replace r3 := hid r3
      clear g3 q2
      unfold Fault
      go_wp2_with fail
      exact not_bad HC.out P3.out g03.out r3.out
    | ok n R =>
      obtain ⟨g3, v, rfl, hv, r3⟩ := hpost
      obtain ⟨nk, np, nl, nc, nf, ns, nx, rfl⟩ := NodeR.In.value hv
      have hC1 := hid (show partP fin (d + 1) L = (if isT R bShut then .ok n R.tail else failP fin 41 R) from by rw [hC0.out, hpart])
      have hs3 := g3.size
      have S3 := NodeR.In.grow (Grow.alloc w3 (.cells #[.int .i64 nk, .slice np nl nc, .string nf, .string ns, .int .i64 nx] 24)) hv
      have G3 := hid (Lib.grownBy_below (Lib.grownBy_trans G2.out g3) (Grow.alloc w3 (.cells #[.int .i64 nk, .slice np nl nc, .string nf, .string ns, .int .i64 nx] 24)))
      have P3 := hid (heap_alloc_keep (heapBy g3 P2.out (by omega)) (.cells #[.int .i64 nk, .slice np nl nc, .string nf, .string ns, .int .i64 nx] 24))
      have Z3 := hid (heap_alloc_keep (heapBy g3 Z2.out (by omega)) (.cells #[.int .i64 nk, .slice np nl nc, .string nf, .string ns, .int .i64 nx] 24))
      have N3 := hid (heap_new w3 (.cells #[.int .i64 nk, .slice np nl nc, .string nf, .string ns, .int .i64 nx] 24))
      have r4 := hid (r3.grow (Grow.alloc w3 (.cells #[.int .i64 nk, .slice np nl nc, .string nf, .string ns, .int .i64 nx] 24)))
      have q3 : w3.cell? ⟨pb, 0, none⟩ = some (.pointer (some ⟨rb, 0, none⟩)) := by rw [heap_cell (heapBy g3 P2.out (by omega))]; rfl
      have hs4 : pb < w3.heap.size := by omega
      have hs5 : pb + 1 ≠ w3.heap.size := by omega
      have hs6 : w3.heap.size ≠ rb := by omega
      replace S3 := hid S3
      have hs7 : w3.heap.size + 1 = (w3.alloc (.cells #[.int .i64 nk, .slice np nl nc, .string nf, .string ns, .int .i64 nx] 24)).heap.size := by simp
      replace hs7 := hid hs7
      clear g3 hv r3 hpart q2
      go_wp2_with fail
      generalize w3.alloc (.cells #[.int .i64 nk, .slice np nl nc, .string nf, .string ns, .int .i64 nx] 24) = w4 at *
      generalize w3.heap.size = nb at *
      by_cases hsh : isT R bShut = true
      · have HC := hid (show partP fin (d + 1) L = .ok n R.tail from by rw [hC1.out, if_pos hsh])
        refine (skipYes_c bShut rb fin (deep + 1) R w4 r4.out hsh).mono ?_
        rintro e w5 ⟨rfl, r5, g5⟩
        have hs8 := g5.size
        have Z5 := heapBy g5 Z3.out (by omega)
        have N5 := heapBy g5 N3.out hs6
        have z0 : w5.cell? ⟨pb + 1, 0, none⟩ = some (.int .i64 0) := by rw [heap_cell Z5]; rfl
        have z1 : w5.cell? ⟨pb + 1, 1, none⟩ = some (.slice none 0 0) := by rw [heap_cell Z5]; rfl
        have z2 : w5.cell? ⟨pb + 1, 2, none⟩ = some (.string ⟨#[]⟩) := by rw [heap_cell Z5]; rfl
        have z3 : w5.cell? ⟨pb + 1, 3, none⟩ = some (.string ⟨#[]⟩) := by rw [heap_cell Z5]; rfl
        have z4 : w5.cell? ⟨pb + 1, 4, none⟩ = some (.int .i64 0) := by rw [heap_cell Z5]; rfl
        have y0 : w5.frozen? ⟨pb + 1, 0, none⟩ = false := heap_frozen Z5 0 (by omega)
        have y1 : w5.frozen? ⟨pb + 1, 1, none⟩ = false := heap_frozen Z5 1 (by omega)
        have y2 : w5.frozen? ⟨pb + 1, 2, none⟩ = false := heap_frozen Z5 2 (by omega)
        have y3 : w5.frozen? ⟨pb + 1, 3, none⟩ = false := heap_frozen Z5 3 (by omega)
        have y4 : w5.frozen? ⟨pb + 1, 4, none⟩ = false := heap_frozen Z5 4 (by omega)
        have b0 : w5.cell? ⟨nb, 0, none⟩ = some (.int .i64 nk) := by rw [heap_cell N5]; rfl
        have b1 : w5.cell? ⟨nb, 1, none⟩ = some (.slice np nl nc) := by rw [heap_cell N5]; rfl
        have b2 : w5.cell? ⟨nb, 2, none⟩ = some (.string nf) := by rw [heap_cell N5]; rfl
        have b3 : w5.cell? ⟨nb, 3, none⟩ = some (.string ns) := by rw [heap_cell N5]; rfl
        have b4 : w5.cell? ⟨nb, 4, none⟩ = some (.int .i64 nx) := by rw [heap_cell N5]; rfl
        have S5 := NodeR.In.grown (fun b _ hb => by have : pb + 2 ≤ b := hb; simp; omega) g5 S3.out
        have E := hid (store5 (Lib.grownBy_trans G3.out g5) r5 Z5 (by omega) (by omega) (.int .i64 nk) (.slice np nl nc) (.string nf) (.string ns) (.int .i64 nx) S5 (lo := lo) (by omega))
        have P5 := hid (keep5 (heapBy g5 P3.out (by omega)) (show pb ≠ pb + 1 by omega) (.int .i64 nk) (.slice np nl nc) (.string nf) (.string ns) (.int .i64 nx))
        clear g5 r5 Z5 N5 S5 q3 hsh
        go_wp2_with fail
        have hC2 := HC.out
        have E1 := E.out
        have P6 := P5.out
        with_reducible refine not_door hd ?_ hC2 P6 (by omega) hr E1
        rfl
      · replace hsh : isT R bShut = false := by simpa using hsh
        have HC := hid (show partP fin (d + 1) L = failP fin 41 R from by rw [hC1.out, hsh]; rfl)
        refine (skipNo_c bShut rb fin (deep + 1) R w4 r4.out hsh).mono ?_
        rintro e w5 ⟨rfl, rfl⟩
        have q4 : w4.cell? ⟨pb, 0, none⟩ = some (.pointer (some ⟨rb, 0, none⟩)) := by rw [heap_cell P3.out]; rfl
        clear hsh
        go_wp2_with fail
        refine (failIs_c 41 rb fin (deep + 1) R w4 r4.out).mono ?_
        rintro e w5 ⟨rfl, rfl⟩
        unfold Fault
        go_wp2_with fail
        exact not_bad HC.out P3.out G3.out r4.out.any
  replace ho : isT L bOpen = false := by simpa using ho
  refine (skipNo_c bOpen rb fin (deep + 1) L w1 r1.out ho).mono ?_
  rintro e w2 ⟨rfl, rfl⟩
  replace ho := hid ho
  go_wp2_with fail
  have hways : (isT L bOverlaps = true) ∨ (isT L bOverlaps = false ∧ isT L bBefore = true) ∨ (isT L bOverlaps = false ∧ isT L bBefore = false ∧ isT L bAfter = true) ∨ (isT L bOverlaps = false ∧ isT L bBefore = false ∧ isT L bAfter = false) := by
    cases isT L bOverlaps <;> cases isT L bBefore <;> cases isT L bAfter <;> simp
  have hnear : (isT L bOverlaps || isT L bBefore || isT L bAfter) = true → ∃ t L1, L = t :: L1 ∧ t.kind = 1 ∧ Hid ((∀ v R, L1 = v :: R → v.kind ≠ 2) → partP fin (d + 1) L = failP fin 41 L1) ∧ Hid (∀ v L2, L1 = v :: L2 → v.kind = 2 → partP fin (d + 1) L = .ok (.mk 5 [] t.str ⟨#[]⟩ v.num) L2) := by
    intro hn
    have hpn := partP_near (fin := fin) (d := d) hi.out ha.out ho.out hn
    cases L with
    | nil => simp [isT] at hn
    | cons t L1 =>
      have hok : t.Ok := by obtain ⟨_, _, _, _, _, _, h⟩ := r1.out; exact h t (by simp)
      refine ⟨t, L1, rfl, near_word hok hn, hid (fun hv => ?_), hid (fun v L2 e hv => ?_)⟩
      · rw [hpn]
        cases L1 with
        | nil => rfl
        | cons v R => simp [nearP, hv v R rfl]
      · subst e
        rw [hpn]
        simp [nearP, hv]
  replace hnear := hid hnear
  rcases hways with hv1 | ⟨hv1, hv2⟩ | ⟨hv1, hv2, hv3⟩ | ⟨hv1, hv2, hv3⟩
  · obtain ⟨t, L1, rfl, hk1, hNB, hNO⟩ := hnear.out (by rw [hv1]; rfl)
    replace hk1 := hid hk1
    replace hv1 := hid hv1
    have C := is_c bOverlaps rb fin (deep + 1) (t :: L1) w1 r1.out
    rw [hv1.out] at C
    refine C.mono ?_
    rintro e w2 ⟨rfl, rfl⟩
    clear C
    go_wp2_with fail
    refine (takeOk_c hk1.out rb fin (deep + 1) w1 r1.out).mono ?_
    rintro e w2 ⟨g2, rfl, r2⟩
    have hs2 := g2.size
    have G2 := hid (Lib.grownBy_trans G1.out g2)
    have P2 := hid (heapBy g2 P1.out (by omega))
    have Z2 := hid (heapBy g2 Z1.out (by omega))
    have q2 : w2.cell? ⟨pb, 0, none⟩ = some (.pointer (some ⟨rb, 0, none⟩)) := by rw [heap_cell P2.out]; rfl
    replace r2 := hid r2
    clear g2 q1
    go_wp2_with fail
    by_cases hv : ∀ v R, L1 = v :: R → v.kind ≠ 2
    · have HC := hid (hNB.out hv)
      refine (takeBad_c hv rb fin (deep + 1) w2 r2.out).mono ?_
      rintro e w3 ⟨g3, rfl, r3⟩
      have g03 := hid (Lib.grownBy_trans G2.out g3)
      have P3 := hid (heapBy g3 P2.out (by omega))
      replace r3 := hid r3
      clear g3 hv q2
      unfold Fault
      go_wp2_with fail
      exact not_bad HC.out P3.out g03.out r3.out
    · obtain ⟨v, L2, rfl, hvk2⟩ : ∃ v L2, L1 = v :: L2 ∧ v.kind = 2 := by
        cases L1 with
        | nil => exact absurd (fun m R h => by cases h) hv
        | cons m R => exact ⟨m, R, rfl, by
            by_cases h : m.kind = 2
            · exact h
            · exact absurd (fun m' R' e => by cases e; exact h) hv⟩
      have HC := hid (hNO.out v L2 rfl hvk2)
      refine (takeOk_c hvk2 rb fin (deep + 1) w2 r2.out).mono ?_
      rintro e w3 ⟨g3, rfl, r3⟩
      have hs3 := g3.size
      have Z3 := heapBy g3 Z2.out (by omega)
      have z0 : w3.cell? ⟨pb + 1, 0, none⟩ = some (.int .i64 0) := by rw [heap_cell Z3]; rfl
      have z1 : w3.cell? ⟨pb + 1, 1, none⟩ = some (.slice none 0 0) := by rw [heap_cell Z3]; rfl
      have z2 : w3.cell? ⟨pb + 1, 2, none⟩ = some (.string ⟨#[]⟩) := by rw [heap_cell Z3]; rfl
      have z3 : w3.cell? ⟨pb + 1, 3, none⟩ = some (.string ⟨#[]⟩) := by rw [heap_cell Z3]; rfl
      have z4 : w3.cell? ⟨pb + 1, 4, none⟩ = some (.int .i64 0) := by rw [heap_cell Z3]; rfl
      have y0 : w3.frozen? ⟨pb + 1, 0, none⟩ = false := heap_frozen Z3 0 (by omega)
      have y1 : w3.frozen? ⟨pb + 1, 1, none⟩ = false := heap_frozen Z3 1 (by omega)
      have y2 : w3.frozen? ⟨pb + 1, 2, none⟩ = false := heap_frozen Z3 2 (by omega)
      have y3 : w3.frozen? ⟨pb + 1, 3, none⟩ = false := heap_frozen Z3 3 (by omega)
      have y4 : w3.frozen? ⟨pb + 1, 4, none⟩ = false := heap_frozen Z3 4 (by omega)
      have E := hid (store5 (Lib.grownBy_trans G2.out g3) r3 Z3 (by omega) (by omega) (.int .i64 5) (.slice none 0 0) (.string t.str) (.string ⟨#[]⟩) (.int .i64 v.num) (NodeR.In.leaf _ w3 5 t.str ⟨#[]⟩ v.num) (lo := lo) (by omega))
      have P5 := hid (keep5 (heapBy g3 P2.out (by omega)) (show pb ≠ pb + 1 by omega) (.int .i64 5) (.slice none 0 0) (.string t.str) (.string ⟨#[]⟩) (.int .i64 v.num))
      clear g3 r3 Z3 q2 hv hvk2
      go_wp2_with fail
      have hC2 := HC.out
      have E1 := E.out
      have P6 := P5.out
      with_reducible refine not_door hd ?_ hC2 P6 (by omega) hr E1
      rfl
  · obtain ⟨t, L1, rfl, hk1, hNB, hNO⟩ := hnear.out (by rw [hv1, hv2]; rfl)
    replace hk1 := hid hk1
    replace hv1 := hid hv1
    replace hv2 := hid hv2
    have C := is_c bOverlaps rb fin (deep + 1) (t :: L1) w1 r1.out
    rw [hv1.out] at C
    refine C.mono ?_
    rintro e w2 ⟨rfl, rfl⟩
    clear C
    go_wp2_with fail
    have C := is_c bBefore rb fin (deep + 1) (t :: L1) w1 r1.out
    rw [hv2.out] at C
    refine C.mono ?_
    rintro e w2 ⟨rfl, rfl⟩
    clear C
    go_wp2_with fail
    refine (takeOk_c hk1.out rb fin (deep + 1) w1 r1.out).mono ?_
    rintro e w2 ⟨g2, rfl, r2⟩
    have hs2 := g2.size
    have G2 := hid (Lib.grownBy_trans G1.out g2)
    have P2 := hid (heapBy g2 P1.out (by omega))
    have Z2 := hid (heapBy g2 Z1.out (by omega))
    have q2 : w2.cell? ⟨pb, 0, none⟩ = some (.pointer (some ⟨rb, 0, none⟩)) := by rw [heap_cell P2.out]; rfl
    replace r2 := hid r2
    clear g2 q1
    go_wp2_with fail
    by_cases hv : ∀ v R, L1 = v :: R → v.kind ≠ 2
    · have HC := hid (hNB.out hv)
      refine (takeBad_c hv rb fin (deep + 1) w2 r2.out).mono ?_
      rintro e w3 ⟨g3, rfl, r3⟩
      have g03 := hid (Lib.grownBy_trans G2.out g3)
      have P3 := hid (heapBy g3 P2.out (by omega))
      replace r3 := hid r3
      clear g3 hv q2
      unfold Fault
      go_wp2_with fail
      exact not_bad HC.out P3.out g03.out r3.out
    · obtain ⟨v, L2, rfl, hvk2⟩ : ∃ v L2, L1 = v :: L2 ∧ v.kind = 2 := by
        cases L1 with
        | nil => exact absurd (fun m R h => by cases h) hv
        | cons m R => exact ⟨m, R, rfl, by
            by_cases h : m.kind = 2
            · exact h
            · exact absurd (fun m' R' e => by cases e; exact h) hv⟩
      have HC := hid (hNO.out v L2 rfl hvk2)
      refine (takeOk_c hvk2 rb fin (deep + 1) w2 r2.out).mono ?_
      rintro e w3 ⟨g3, rfl, r3⟩
      have hs3 := g3.size
      have Z3 := heapBy g3 Z2.out (by omega)
      have z0 : w3.cell? ⟨pb + 1, 0, none⟩ = some (.int .i64 0) := by rw [heap_cell Z3]; rfl
      have z1 : w3.cell? ⟨pb + 1, 1, none⟩ = some (.slice none 0 0) := by rw [heap_cell Z3]; rfl
      have z2 : w3.cell? ⟨pb + 1, 2, none⟩ = some (.string ⟨#[]⟩) := by rw [heap_cell Z3]; rfl
      have z3 : w3.cell? ⟨pb + 1, 3, none⟩ = some (.string ⟨#[]⟩) := by rw [heap_cell Z3]; rfl
      have z4 : w3.cell? ⟨pb + 1, 4, none⟩ = some (.int .i64 0) := by rw [heap_cell Z3]; rfl
      have y0 : w3.frozen? ⟨pb + 1, 0, none⟩ = false := heap_frozen Z3 0 (by omega)
      have y1 : w3.frozen? ⟨pb + 1, 1, none⟩ = false := heap_frozen Z3 1 (by omega)
      have y2 : w3.frozen? ⟨pb + 1, 2, none⟩ = false := heap_frozen Z3 2 (by omega)
      have y3 : w3.frozen? ⟨pb + 1, 3, none⟩ = false := heap_frozen Z3 3 (by omega)
      have y4 : w3.frozen? ⟨pb + 1, 4, none⟩ = false := heap_frozen Z3 4 (by omega)
      have E := hid (store5 (Lib.grownBy_trans G2.out g3) r3 Z3 (by omega) (by omega) (.int .i64 5) (.slice none 0 0) (.string t.str) (.string ⟨#[]⟩) (.int .i64 v.num) (NodeR.In.leaf _ w3 5 t.str ⟨#[]⟩ v.num) (lo := lo) (by omega))
      have P5 := hid (keep5 (heapBy g3 P2.out (by omega)) (show pb ≠ pb + 1 by omega) (.int .i64 5) (.slice none 0 0) (.string t.str) (.string ⟨#[]⟩) (.int .i64 v.num))
      clear g3 r3 Z3 q2 hv hvk2
      go_wp2_with fail
      have hC2 := HC.out
      have E1 := E.out
      have P6 := P5.out
      with_reducible refine not_door hd ?_ hC2 P6 (by omega) hr E1
      rfl
  · obtain ⟨t, L1, rfl, hk1, hNB, hNO⟩ := hnear.out (by rw [hv1, hv2, hv3]; rfl)
    replace hk1 := hid hk1
    replace hv1 := hid hv1
    replace hv2 := hid hv2
    replace hv3 := hid hv3
    have C := is_c bOverlaps rb fin (deep + 1) (t :: L1) w1 r1.out
    rw [hv1.out] at C
    refine C.mono ?_
    rintro e w2 ⟨rfl, rfl⟩
    clear C
    go_wp2_with fail
    have C := is_c bBefore rb fin (deep + 1) (t :: L1) w1 r1.out
    rw [hv2.out] at C
    refine C.mono ?_
    rintro e w2 ⟨rfl, rfl⟩
    clear C
    go_wp2_with fail
    have C := is_c bAfter rb fin (deep + 1) (t :: L1) w1 r1.out
    rw [hv3.out] at C
    refine C.mono ?_
    rintro e w2 ⟨rfl, rfl⟩
    clear C
    go_wp2_with fail
    refine (takeOk_c hk1.out rb fin (deep + 1) w1 r1.out).mono ?_
    rintro e w2 ⟨g2, rfl, r2⟩
    have hs2 := g2.size
    have G2 := hid (Lib.grownBy_trans G1.out g2)
    have P2 := hid (heapBy g2 P1.out (by omega))
    have Z2 := hid (heapBy g2 Z1.out (by omega))
    have q2 : w2.cell? ⟨pb, 0, none⟩ = some (.pointer (some ⟨rb, 0, none⟩)) := by rw [heap_cell P2.out]; rfl
    replace r2 := hid r2
    clear g2 q1
    go_wp2_with fail
    by_cases hv : ∀ v R, L1 = v :: R → v.kind ≠ 2
    · have HC := hid (hNB.out hv)
      refine (takeBad_c hv rb fin (deep + 1) w2 r2.out).mono ?_
      rintro e w3 ⟨g3, rfl, r3⟩
      have g03 := hid (Lib.grownBy_trans G2.out g3)
      have P3 := hid (heapBy g3 P2.out (by omega))
      replace r3 := hid r3
      clear g3 hv q2
      unfold Fault
      go_wp2_with fail
      exact not_bad HC.out P3.out g03.out r3.out
    · obtain ⟨v, L2, rfl, hvk2⟩ : ∃ v L2, L1 = v :: L2 ∧ v.kind = 2 := by
        cases L1 with
        | nil => exact absurd (fun m R h => by cases h) hv
        | cons m R => exact ⟨m, R, rfl, by
            by_cases h : m.kind = 2
            · exact h
            · exact absurd (fun m' R' e => by cases e; exact h) hv⟩
      have HC := hid (hNO.out v L2 rfl hvk2)
      refine (takeOk_c hvk2 rb fin (deep + 1) w2 r2.out).mono ?_
      rintro e w3 ⟨g3, rfl, r3⟩
      have hs3 := g3.size
      have Z3 := heapBy g3 Z2.out (by omega)
      have z0 : w3.cell? ⟨pb + 1, 0, none⟩ = some (.int .i64 0) := by rw [heap_cell Z3]; rfl
      have z1 : w3.cell? ⟨pb + 1, 1, none⟩ = some (.slice none 0 0) := by rw [heap_cell Z3]; rfl
      have z2 : w3.cell? ⟨pb + 1, 2, none⟩ = some (.string ⟨#[]⟩) := by rw [heap_cell Z3]; rfl
      have z3 : w3.cell? ⟨pb + 1, 3, none⟩ = some (.string ⟨#[]⟩) := by rw [heap_cell Z3]; rfl
      have z4 : w3.cell? ⟨pb + 1, 4, none⟩ = some (.int .i64 0) := by rw [heap_cell Z3]; rfl
      have y0 : w3.frozen? ⟨pb + 1, 0, none⟩ = false := heap_frozen Z3 0 (by omega)
      have y1 : w3.frozen? ⟨pb + 1, 1, none⟩ = false := heap_frozen Z3 1 (by omega)
      have y2 : w3.frozen? ⟨pb + 1, 2, none⟩ = false := heap_frozen Z3 2 (by omega)
      have y3 : w3.frozen? ⟨pb + 1, 3, none⟩ = false := heap_frozen Z3 3 (by omega)
      have y4 : w3.frozen? ⟨pb + 1, 4, none⟩ = false := heap_frozen Z3 4 (by omega)
      have E := hid (store5 (Lib.grownBy_trans G2.out g3) r3 Z3 (by omega) (by omega) (.int .i64 5) (.slice none 0 0) (.string t.str) (.string ⟨#[]⟩) (.int .i64 v.num) (NodeR.In.leaf _ w3 5 t.str ⟨#[]⟩ v.num) (lo := lo) (by omega))
      have P5 := hid (keep5 (heapBy g3 P2.out (by omega)) (show pb ≠ pb + 1 by omega) (.int .i64 5) (.slice none 0 0) (.string t.str) (.string ⟨#[]⟩) (.int .i64 v.num))
      clear g3 r3 Z3 q2 hv hvk2
      go_wp2_with fail
      have hC2 := HC.out
      have E1 := E.out
      have P6 := P5.out
      with_reducible refine not_door hd ?_ hC2 P6 (by omega) hr E1
      rfl
  · have hC0 := hid (partP_comp (fin := fin) (d := d) hi.out ha.out ho.out (by rw [hv1, hv2, hv3]; rfl))
    replace hv1 := hid hv1
    replace hv2 := hid hv2
    replace hv3 := hid hv3
    clear hnear
    have C := is_c bOverlaps rb fin (deep + 1) L w1 r1.out
    rw [hv1.out] at C
    refine C.mono ?_
    rintro e w2 ⟨rfl, rfl⟩
    clear C
    go_wp2_with fail
    have C := is_c bBefore rb fin (deep + 1) L w1 r1.out
    rw [hv2.out] at C
    refine C.mono ?_
    rintro e w2 ⟨rfl, rfl⟩
    clear C
    go_wp2_with fail
    have C := is_c bAfter rb fin (deep + 1) L w1 r1.out
    rw [hv3.out] at C
    refine C.mono ?_
    rintro e w2 ⟨rfl, rfl⟩
    clear C
    go_wp2_with fail
    refine (compare_c (pb + 2) rb fin (deep + 1) L w1 r1.out (by omega) (by omega)).mono ?_
    intro e w3 hpost
    generalize hpart : compareP fin L = res at hpost
    cases res with
    | bad k p =>
      obtain ⟨g3, rfl, r3⟩ := hpost
      have HC := hid (show partP fin (d + 1) L = .bad k p from by rw [hC0.out, hpart])
      have g03 := hid (Lib.grownBy_trans G1.out g3)
      have P3 := hid (heapBy g3 P1.out (by omega))
      replace r3 := hid r3
      clear g3 q1
      unfold Fault
      go_wp2_with fail
      exact not_bad HC.out P3.out g03.out r3.out
    | ok n R =>
      obtain ⟨g3, v, rfl, hv, r3⟩ := hpost
      obtain ⟨nk, np, nl, nc, nf, ns, nx, rfl⟩ := NodeR.In.value hv
      have HC := hid (show partP fin (d + 1) L = .ok n R from by rw [hC0.out, hpart])
      have hs3 := g3.size
      have Z3 := heapBy g3 Z1.out (by omega)
      have z0 : w3.cell? ⟨pb + 1, 0, none⟩ = some (.int .i64 0) := by rw [heap_cell Z3]; rfl
      have z1 : w3.cell? ⟨pb + 1, 1, none⟩ = some (.slice none 0 0) := by rw [heap_cell Z3]; rfl
      have z2 : w3.cell? ⟨pb + 1, 2, none⟩ = some (.string ⟨#[]⟩) := by rw [heap_cell Z3]; rfl
      have z3 : w3.cell? ⟨pb + 1, 3, none⟩ = some (.string ⟨#[]⟩) := by rw [heap_cell Z3]; rfl
      have z4 : w3.cell? ⟨pb + 1, 4, none⟩ = some (.int .i64 0) := by rw [heap_cell Z3]; rfl
      have y0 : w3.frozen? ⟨pb + 1, 0, none⟩ = false := heap_frozen Z3 0 (by omega)
      have y1 : w3.frozen? ⟨pb + 1, 1, none⟩ = false := heap_frozen Z3 1 (by omega)
      have y2 : w3.frozen? ⟨pb + 1, 2, none⟩ = false := heap_frozen Z3 2 (by omega)
      have y3 : w3.frozen? ⟨pb + 1, 3, none⟩ = false := heap_frozen Z3 3 (by omega)
      have y4 : w3.frozen? ⟨pb + 1, 4, none⟩ = false := heap_frozen Z3 4 (by omega)
      have E := hid (store5 (Lib.grownBy_trans G1.out g3) r3 Z3 (by omega) (by omega) (.int .i64 nk) (.slice np nl nc) (.string nf) (.string ns) (.int .i64 nx) hv (lo := lo) (by omega))
      have P5 := hid (keep5 (heapBy g3 P1.out (by omega)) (show pb ≠ pb + 1 by omega) (.int .i64 nk) (.slice np nl nc) (.string nf) (.string ns) (.int .i64 nx))
      clear g3 r3 Z3 q1 hv hpart
      go_wp2_with fail
      have hC2 := HC.out
      have E1 := E.out
      have P6 := P5.out
      with_reducible refine not_door hd ?_ hC2 P6 (by omega) hr E1
      rfl
theorem not_c (rb fin : Nat) : ∀ d, d ≤ 32 → PartC 73 rb fin (32 - d) (partP fin d)
  | 0, _ => notDeep_c rb fin
  | d + 1, h => by
    have ih := not_c rb fin d (by omega)
    rw [show 32 - d = (32 - (d + 1)) + 1 from by omega] at ih
    exact notStep_c rb fin d (32 - (d + 1)) (by omega) ih
/-- A condition is read. -/
theorem cond_c (rb fin : Nat) : PartC 45 rb fin 0 (orP fin 32) :=
  or_c rb fin 0 _ (and_c rb fin 0 _ (not_c rb fin 32 (Nat.le_refl _)) (partP_len fin 32)) (andP_len fin 32)
end Go.Proofs.YteilkcdbdpkbfaaDoor
