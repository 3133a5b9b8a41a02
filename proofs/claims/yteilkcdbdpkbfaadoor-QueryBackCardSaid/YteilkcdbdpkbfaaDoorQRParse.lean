/- The reference reads a text as a query. -/
import Derived.Test.YteilkcdbdpkbfaaDoorQRPart
import Derived.Test.YteilkcdbdpkbfaaDoorQParse2
import Derived.Deep.Cut
namespace Go.Proofs.YteilkcdbdpkbfaaDoor
open Go.RowKit
set_option linter.unusedVariables false
set_option linter.unusedSimpArgs false
attribute [local go_sem ↓ high] setCell_twice run_rtok0 run_rtok1 run_rtok2
theorem RScan_any (s : ByteArray) (w : World) (hs : s.size ≤ 140737488351232) : Calls Tryd.prog 19 #[.string s] w (ScanPost (scan s.data.toList) w) := by
  unfold scan
  by_cases h : 4096 < s.data.toList.length
  · rw [if_pos h]
    have h' : 4096 < s.size := by simpa using h
    clear h
    go_enter Tryd.func19, Tryd.ntmps19
    go_wp2_with fail
    go_ret3
    exact ⟨.slice none 0 0, rfl, Toks.nil _, Grow.refl _⟩
  · rw [if_neg h]
    exact RScan_c s w (by simpa using h)
/-- What stands in the boxes: the reading, the query so far, the result. -/
structure StR (w wx : World) (p : Option Addr) (n cap fin RX QX RQ a e q : Nat) (k : QueryR) (cs : Array Value) : Prop where
  grow : Grow w wx
  rd : wx.heap[RX]? = some (.cells #[.slice p n cap, .int .i64 (fin : Int), .int .i64 (a : Int), .int .i64 (e : Int), .int .i64 (q : Int)] 52)
  qu : wx.heap[QX]? = some (.cells cs 26)
  shape : ∃ c0 c1 c2 c3 c4, cs = #[c0, c1, c2, c3, c4, .string k.order, .bool k.down, .int .i64 k.limit, .bool k.count] ∧ k.whr.In (fun b => QX < b) wx (.agg #[c0, c1, c2, c3, c4])
  rq : wx.heap[RQ]? = some QueryZ
theorem StR.node {w wx : World} {p : Option Addr} {n cap fin RX QX RQ a e q : Nat} {k : QueryR} {d0 d1 d2 d3 d4 x5 x6 x7 x8 : Value} (h : StR w wx p n cap fin RX QX RQ a e q k #[d0, d1, d2, d3, d4, x5, x6, x7, x8]) : k.whr.In (fun b => QX < b) wx (.agg #[d0, d1, d2, d3, d4]) := by
  obtain ⟨c0, c1, c2, c3, c4, hcs, hin⟩ := h.shape
  simp only [Array.mk.injEq, List.cons.injEq] at hcs
  obtain ⟨rfl, rfl, rfl, rfl, rfl, -⟩ := hcs
  exact hin
theorem setRd {w wx : World} {p : Option Addr} {n cap fin RX QX RQ a e q : Nat} {k : QueryR} {cs : Array Value} (h : StR w wx p n cap fin RX QX RQ a e q k cs) {wy : World} (g : Grow wx wy) (hw : w.heap.size ≤ RX) (h1 : RX < QX) (h2 : RQ < RX) (a' e' q' : Nat) {x y z : Value} (hx : x = .int .i64 (a' : Int)) (hy : y = .int .i64 (e' : Int)) (hz : z = .int .i64 (q' : Int)) :
    StR w (((((wy.setCell ⟨RX, 0, none⟩ (.slice p n cap)).setCell ⟨RX, 1, none⟩ (.int .i64 (fin : Int))).setCell ⟨RX, 2, none⟩ x).setCell ⟨RX, 3, none⟩ y).setCell ⟨RX, 4, none⟩ z) p n cap fin RX QX RQ a' e' q' k cs := by
  subst hx hy hz
  have Z := set5 (h.grow.trans g) hw (g.heap h.rd) (.slice p n cap) (.int .i64 (fin : Int)) (.int .i64 (a' : Int)) (.int .i64 (e' : Int)) (.int .i64 (q' : Int))
  have Y := (by10 wy RX RX (.slice p n cap) (.int .i64 (fin : Int)) (.int .i64 (a' : Int)) (.int .i64 (e' : Int)) (.int .i64 (q' : Int)) undef undef undef undef undef).1
  obtain ⟨c0, c1, c2, c3, c4, hc, hin⟩ := h.shape
  exact ⟨Z.2.1, Z.1, Z.2.2.1 QX _ (by omega) (g.heap h.qu), ⟨c0, c1, c2, c3, c4, hc, NodeR.In.grown (row := some RX) (fun b hb hS => by have h : QX < b := hS; simp; omega) Y (NodeR.In.grow g hin)⟩, Z.2.2.1 RQ _ (by omega) (g.heap h.rq)⟩
theorem StR.up {w wx wy : World} {p : Option Addr} {n cap fin RX QX RQ a e q : Nat} {k : QueryR} {cs : Array Value} (h : StR w wx p n cap fin RX QX RQ a e q k cs) (g : Grow wx wy) : StR w wy p n cap fin RX QX RQ a e q k cs := by
  obtain ⟨c0, c1, c2, c3, c4, hc, hin⟩ := h.shape
  exact ⟨h.grow.trans g, g.heap h.rd, g.heap h.qu, ⟨c0, c1, c2, c3, c4, hc, NodeR.In.grow g hin⟩, g.heap h.rq⟩
/-- One cell of the query is set. -/
theorem setQ {w wx : World} {p : Option Addr} {n cap fin RX QX RQ a e q : Nat} {k : QueryR} {c0 c1 c2 c3 c4 : Value} (h : StR w wx p n cap fin RX QX RQ a e q k #[c0, c1, c2, c3, c4, .string k.order, .bool k.down, .int .i64 k.limit, .bool k.count]) (hw : w.heap.size ≤ QX) (h1 : RX < QX) (h2 : RQ < RX) (hin : k.whr.In (fun b => QX < b) wx (.agg #[c0, c1, c2, c3, c4])) (j : Nat) (v : Value) (k' : QueryR) (hk : k'.whr = k.whr) (cs' : Array Value) (hcs : cs' = #[c0, c1, c2, c3, c4, .string k'.order, .bool k'.down, .int .i64 k'.limit, .bool k'.count])
    (hj : (wx.setCell ⟨QX, j, none⟩ v).heap[QX]? = some (.cells cs' 26)) : StR w (wx.setCell ⟨QX, j, none⟩ v) p n cap fin RX QX RQ a e q k' cs' := by
  refine ⟨Grow.set h.grow QX j hw v, heap_keep h.rd _ _ (by show RX ≠ QX; omega), hj, ⟨c0, c1, c2, c3, c4, hcs, ?_⟩, heap_keep h.rq _ _ (by show RQ ≠ QX; omega)⟩
  rw [hk]
  exact NodeR.In.grown (row := some QX) (fun b hb hS => by have h : QX < b := hS; simp; omega) (Lib.grownBy_setB (World.grownBy.refl _ _) j v) hin
theorem results_rq {P : Program} {fn : Func} {p : Tmp} {ty : TypeId} (h : fn.results = #[.cell p ty, .tmp 3, .tmp 4]) (tmps : Array Value) (w : World) (g : Nat) (cs : Array Value) (d : TypeDesc) (x y : Value)
    (hp : tmps.getD p undef = .pointer (some ⟨g, 0, none⟩)) (hg : w.heap[g]? = some (.cells cs ty (0, 0))) (hu : P.underlying ty = some d) (hd : (match d with | .struct _ | .array _ _ => true | _ => false) = true) (hi : (P.info? ty).map (·.size) = some cs.size)
    (hx : tmps.getD 3 undef = x) (hy : tmps.getD 4 undef = y) : (results fn tmps).run P w = .ok (.tuple #[.agg cs, x, y]) w := by
  have hp' : tmps[p]?.getD undef = .pointer (some ⟨g, 0, none⟩) := by simpa using hp
  have hx' : tmps[3]?.getD undef = x := by simpa using hx
  have hy' : tmps[4]?.getD undef = y := by simpa using hy
  simp [results, h, hp', hx', hy', asAddr, Result.andThen, run_loadVar_row w g ty ty cs (0, 0) d hg hu hd hi]
theorem setNode {w wx : World} {p : Option Addr} {n cap fin RX QX RQ a e q : Nat} {k : QueryR} {cs : Array Value} (h : StR w wx p n cap fin RX QX RQ a e q k cs) (hw : w.heap.size ≤ QX) (h1 : RX < QX) (h2 : RQ < RX) {nd : NodeR} {d0 d1 d2 d3 d4 : Value} (hin : nd.In (fun b => QX < b) wx (.agg #[d0, d1, d2, d3, d4])) :
    StR w (((((wx.setCell ⟨QX, 0, none⟩ d0).setCell ⟨QX, 1, none⟩ d1).setCell ⟨QX, 2, none⟩ d2).setCell ⟨QX, 3, none⟩ d3).setCell ⟨QX, 4, none⟩ d4) p n cap fin RX QX RQ a e q { k with whr := nd } #[d0, d1, d2, d3, d4, .string k.order, .bool k.down, .int .i64 k.limit, .bool k.count] := by
  obtain ⟨c0, c1, c2, c3, c4, hc, -⟩ := h.shape
  have hq := h.qu
  rw [hc] at hq
  have x0 := heap_set hq 0 d0
  have x1 := heap_set (cs := #[d0, c1, c2, c3, c4, .string k.order, .bool k.down, .int .i64 k.limit, .bool k.count]) x0 1 d1
  have x2 := heap_set (cs := #[d0, d1, c2, c3, c4, .string k.order, .bool k.down, .int .i64 k.limit, .bool k.count]) x1 2 d2
  have x3 := heap_set (cs := #[d0, d1, d2, c3, c4, .string k.order, .bool k.down, .int .i64 k.limit, .bool k.count]) x2 3 d3
  have x4 := heap_set (cs := #[d0, d1, d2, d3, c4, .string k.order, .bool k.down, .int .i64 k.limit, .bool k.count]) x3 4 d4
  have Y := (by10 wx QX QX d0 d1 d2 d3 d4 undef undef undef undef undef).1
  refine ⟨grow_by h.grow Y hw, heap_byO Y h.rd (fun g hg => by have := Option.some.inj hg; omega), x4, ⟨d0, d1, d2, d3, d4, rfl, ?_⟩, heap_byO Y h.rq (fun g hg => by have := Option.some.inj hg; omega)⟩
  exact NodeR.In.grown (row := some QX) (fun b hb hS => by have h : QX < b := hS; simp; omega) Y hin
def limRes (fin : Nat) (k : QueryR) (S : List Tok) : PR QueryR := match limitP fin S with
  | .bad e p => .bad e p
  | .ok l T => endP fin { k with limit := l } T
def ordRes (fin : Nat) (k : QueryR) (S : List Tok) : PR QueryR := match orderP fin S with
  | .bad e p => .bad e p
  | .ok o T => limRes fin { k with order := o.1, down := o.2 } T
def headRes (fin : Nat) (c : Bool) (r : PR NodeR) : PR QueryR := match r with
  | .bad e p => .bad e p
  | .ok n S => ordRes fin ⟨n, ⟨#[]⟩, false, -1, c⟩ S
theorem queryP_head (fin : Nat) (L : List Tok) : queryP fin L = headRes fin (isT L bCount) (orP fin 32 (if isT L bCount then L.tail else L)) := by
  unfold queryP headRes ordRes limRes
  split
  · rename_i h; rw [h]
  · rename_i h
    rw [h]
    simp only
    split
    · rename_i h2; rw [h2]
    · rename_i h2
      rw [h2]
      simp only
      split
      · rename_i h3; rw [h3]
      · rename_i h3; rw [h3]
theorem nextK_bad (T : List Tok) (a : Nat) {e : Nat} (h : e ≠ 0) : nextK T a e = ⟨0, [], 0, 0⟩ := by unfold nextK; rw [if_pos h]
theorem isT_next {T : List Tok} {a : Nat} (ha : a ≤ T.length) {b : ByteArray} (hb : (ByteArray.toList ⟨#[]⟩ == b.toList) = false) : isT (T.drop a) b = ((nextK T a 0).str.toList == b.toList) := by
  rcases next_cases T a ha with ⟨h1, h2⟩ | ⟨h1, -⟩
  · rw [h1, h2, zero_str, hb]; rfl
  · rw [h1]; rfl
def Fin (res : PR QueryR) (k : QueryR) (e q : Nat) (r : PR QueryR) : Prop := (e = 0 ∧ q = 0 ∧ r = res) ∨ (e ≠ 0 ∧ res = .bad e q)
set_option maxRecDepth 100000 in
set_option maxHeartbeats 16000000 in
theorem RParseGood (s : ByteArray) (w : World) (hs : s.size ≤ 140737488351232) (he : (scan s.data.toList).err = 0) : Calls Tryd.prog 11 #[.string s] w (ParsePost (parseP s.data.toList) w) := by
  have HSC := hid (RScan_any s (w.alloc QueryZ) hs)
  obtain ⟨HP, hlen⟩ := parseP_good he
  have HOK : ∀ t ∈ (scan s.data.toList).toks, Tok.Ok t := by
    unfold scan
    rw [if_neg (by omega)]
    exact scanF_ok _ _ 0 (by omega)
  have hsz : s.data.toList.length = s.size := by simp
  rw [hsz] at HP hlen
  replace HP := hid HP
  generalize hsc : scan s.data.toList = sc at *
  replace hsc := hid hsc
  have e1 : ((sc.err : Int) != 0) = false := by simpa using he
  clear hsz
  have G0 := hid (Grow.alloc w QueryZ)
  have Q0 := hid (heap_new w QueryZ)
  have hlen2 : (s.size : Int) ≤ 4096 := by omega
  go_enter Tryd.func11, Tryd.ntmps11
  go_wp2_with fail
  refine HSC.out.mono ?_
  rintro e w1 ⟨v, rfl, hT, g1⟩
  obtain ⟨p, cap, rfl, hTT⟩ := hT
  have TS1 : TokS w1 p sc.toks.length cap sc.toks := ⟨rfl, p, cap, rfl, hTT⟩
  clear hTT
  generalize hn : sc.toks.length = n at *
  generalize sc.toks = T at *
  replace hn := hid hn
  have hnT : n = T.length := hn.out.symm
  have hn4 : T.length ≤ 4096 := by rw [← hnT]; exact TS1.cells.1
  replace hnT := hid hnT
  replace HOK := hid HOK
  generalize hfin : s.size = fin at *
  have g2 := (Grow.alloc w1 (.cells #[.slice p n cap, .int .i64 (fin : Int), .int .i64 0, .int .i64 0, .int .i64 0] 52)).trans (Grow.alloc _ (.cells #[.int .i64 0, .slice none 0 0, .string ⟨#[]⟩, .string ⟨#[]⟩, .int .i64 0, .string ⟨#[]⟩, .bool false, .int .i64 (-1), .bool false] 26))
  have R2' := heap_alloc_keep (heap_new w1 (.cells #[.slice p n cap, .int .i64 (fin : Int), .int .i64 0, .int .i64 0, .int .i64 0] 52)) (.cells #[.int .i64 0, .slice none 0 0, .string ⟨#[]⟩, .string ⟨#[]⟩, .int .i64 0, .string ⟨#[]⟩, .bool false, .int .i64 (-1), .bool false] 26)
  have Q2 := heap_newAt (w1.alloc (.cells #[.slice p n cap, .int .i64 (fin : Int), .int .i64 0, .int .i64 0, .int .i64 0] 52)) (.cells #[.int .i64 0, .slice none 0 0, .string ⟨#[]⟩, .string ⟨#[]⟩, .int .i64 0, .string ⟨#[]⟩, .bool false, .int .i64 (-1), .bool false] 26) (g := w1.heap.size + 1) (by simp)
  have S := hid (show StR w1 _ p n cap fin w1.heap.size (w1.heap.size + 1) w.heap.size 0 0 0 ⟨.zero, ⟨#[]⟩, false, -1, false⟩ _ from ⟨g2, R2', Q2, ⟨_, _, _, _, _, rfl, NodeR.In.leaf _ _ 0 ⟨#[]⟩ ⟨#[]⟩ 0⟩, g2.heap (g1.heap Q0.out)⟩)
  have TS := hid (fun (wx : World) (g : Grow w1 wx) => TS1.grow g)
  have GW := hid (G0.out.trans g1)
  have hz0 : w.heap.size < w1.heap.size := by have := g1.size; simp at this; omega
  clear TS1 R2' Q2 g2 g1 G0 Q0 HSC
  go_upto_region 6 with fail
  generalize (w1.alloc (.cells #[.slice p n cap, .int .i64 (fin : Int), .int .i64 0, .int .i64 0, .int .i64 0] 52)).alloc (.cells #[.int .i64 0, .slice none 0 0, .string ⟨#[]⟩, .string ⟨#[]⟩, .int .i64 0, .string ⟨#[]⟩, .bool false, .int .i64 (-1), .bool false] 26) = W0 at *
  have hXQ : w1.heap.size < w1.heap.size + 1 := by omega
  generalize w1.heap.size + 1 = QX at *
  generalize hRX : w1.heap.size = RX at *
  generalize hRQ : w.heap.size = RQ at *
  have hQX : RQ < RX := hz0
  have nXQ : RX ≠ QX := by omega
  have nQX : QX ≠ RX := by omega
  have nRX : RQ ≠ RX := by omega
  have nRQ : RQ ≠ QX := by omega
  have nXR : RX ≠ RQ := by omega
  have nQR : QX ≠ RQ := by omega
  have hwX : w1.heap.size ≤ RX := Nat.le_of_eq hRX
  have hwQ : w1.heap.size ≤ QX := by omega
  replace hRX := hid hRX
  replace hRQ := hid hRQ
  generalize hres : queryP fin T = res at *
  have hres0 := hid ((queryP_head fin T).symm.trans hres)
  replace hres := hid hres
  obtain ⟨a0, ha0⟩ : ∃ x : Nat, x = 0 := ⟨_, rfl⟩
  replace S := hid (show StR w1 W0 p n cap fin RX QX RQ a0 0 0 _ _ from by rw [ha0]; exact S.out)
  have ha0' : a0 ≤ T.length := by omega
  replace ha0 := hid ha0
  have NX := Rnext_c p n cap fin a0 0 0 T W0 (TS.out _ S.out.grow) (by omega) (by omega)
  unfold rdV at NX
  replace NX := hid NX
  have b0 : W0.cell? ⟨RX, 0, none⟩ = some (.slice p n cap) := by rw [heap_cell S.out.rd]; rfl
  have b1 : W0.cell? ⟨RX, 1, none⟩ = some (.int .i64 (fin : Int)) := by rw [heap_cell S.out.rd]; rfl
  have b2 : W0.cell? ⟨RX, 2, none⟩ = some (.int .i64 (a0 : Int)) := by rw [heap_cell S.out.rd]; rfl
  have b3 : W0.cell? ⟨RX, 3, none⟩ = some (.int .i64 0) := by rw [heap_cell S.out.rd]; rfl
  have b4 : W0.cell? ⟨RX, 4, none⟩ = some (.int .i64 0) := by rw [heap_cell S.out.rd]; rfl
  have hzz := heap_lt S.out.rd
  go_wp2_with fail
  refine NX.out.mono ?_
  rintro e W1 ⟨rfl, gn⟩
  unfold tokV
  replace S := hid (S.out.up gn)
  clear gn NX hzz b0 b1 b2 b3 b4
  generalize hnvnx : nextK T a0 0 = nx at *
  replace hnvnx := hid hnvnx
  have hc0 := hid (isT_next (T := T) (a := a0) ha0' (b := bCount) (by kernel_rfl))
  rw [hnvnx.out] at hc0
  have hC0 := hid (next_cases T a0 ha0')
  go_upto_if 29 with fail
  go_cut [] from 10 (fun wx => ∃ (a : Nat) (k : QueryR) (cs : Array Value), Hid (StR w1 wx p n cap fin RX QX RQ a 0 0 k cs) ∧ Hid (T.drop a = (if isT T bCount then T.tail else T)) ∧ a ≤ T.length ∧ Hid (k = ⟨.zero, ⟨#[]⟩, false, -1, isT T bCount⟩))
  case first =>
    have hin : NodeR.zero.In (fun b => QX < b) W1 (.agg #[.int .i64 0, .slice none 0 0, .string ⟨#[]⟩, .string ⟨#[]⟩, .int .i64 0]) := NodeR.In.leaf _ _ 0 ⟨#[]⟩ ⟨#[]⟩ 0
    cases hcb : (nx.str.toList == [99, 111, 117, 110, 116]) with
    | true =>
      have hcn : nx.str.toList = [99, 111, 117, 110, 116] := by simpa using hcb
      replace hcb := hid hcb
      have hcT : isT T bCount = true := by
        have h := hc0.out
        rw [ha0.out, List.drop_zero] at h
        rw [h, hcn, show bCount.toList = [99, 111, 117, 110, 116] from by kernel_rfl]
        rfl
      have f8 : W1.cell? ⟨QX, 8, none⟩ = some (.bool false) := by rw [heap_cell S.out.qu]; rfl
      have z8 : W1.frozen? ⟨QX, 8, none⟩ = false := heap_frozen S.out.qu 8 (by simp)
      have hzq := heap_lt S.out.qu
      have S2 := hid (setQ S.out (by have := hRX.out; omega) hXQ hQX hin 8 (.bool true) ⟨.zero, ⟨#[]⟩, false, -1, true⟩ rfl _ rfl (heap_set S.out.qu 8 _))
      replace hcT := hid hcT
      clear hcn
      go_upto_region 8 with fail
      generalize W1.setCell ⟨QX, 8, none⟩ (.bool true) = W2 at *
      replace S := S2
      clear S2 f8 z8 hzq hin
      have hpos := hid (show 0 < T.length from by
        rcases hC0.out with ⟨h, -⟩ | ⟨-, h⟩
        · have h2 := hcT.out
          rw [ha0.out, List.drop_zero] at h
          rw [h] at h2
          cases h2
        · have := ha0.out; omega)
      have ON := Ron_c p n cap fin a0 0 0 W2 (by omega)
      unfold rdV at ON
      replace ON := hid ON
      have b0 : W2.cell? ⟨RX, 0, none⟩ = some (.slice p n cap) := by rw [heap_cell S.out.rd]; rfl
      have b1 : W2.cell? ⟨RX, 1, none⟩ = some (.int .i64 (fin : Int)) := by rw [heap_cell S.out.rd]; rfl
      have b2 : W2.cell? ⟨RX, 2, none⟩ = some (.int .i64 (a0 : Int)) := by rw [heap_cell S.out.rd]; rfl
      have b3 : W2.cell? ⟨RX, 3, none⟩ = some (.int .i64 0) := by rw [heap_cell S.out.rd]; rfl
      have b4 : W2.cell? ⟨RX, 4, none⟩ = some (.int .i64 0) := by rw [heap_cell S.out.rd]; rfl
      have hzz := heap_lt S.out.rd
      go_wp2_with fail
      refine ON.out.mono ?_
      rintro e W3 ⟨rfl, gn⟩
      obtain ⟨a1, ha1⟩ : ∃ x : Nat, x = a0 + 1 := ⟨_, rfl⟩
      have S9 := hid (setRd S.out gn hwX hXQ hQX a1 0 0 (x := .int .i64 ((a0 : Int) + 1)) (y := .int .i64 0) (z := .int .i64 0) (by rw [ha1]; push_cast; rfl) rfl rfl)
      have la1 : a1 ≤ 5000 := by omega
      replace ha1 := hid ha1
      have RN := gn.heap S.out.rd
      clear b0 b1 b2 b3 b4 hzz
      have b0 : W3.cell? ⟨RX, 0, none⟩ = some (.slice p n cap) := by rw [heap_cell RN]; rfl
      have b1 : W3.cell? ⟨RX, 1, none⟩ = some (.int .i64 (fin : Int)) := by rw [heap_cell RN]; rfl
      have b2 : W3.cell? ⟨RX, 2, none⟩ = some (.int .i64 (a0 : Int)) := by rw [heap_cell RN]; rfl
      have b3 : W3.cell? ⟨RX, 3, none⟩ = some (.int .i64 0) := by rw [heap_cell RN]; rfl
      have b4 : W3.cell? ⟨RX, 4, none⟩ = some (.int .i64 0) := by rw [heap_cell RN]; rfl
      have y0 : W3.frozen? ⟨RX, 0, none⟩ = false := heap_frozen RN 0 (by omega)
      have y1 : W3.frozen? ⟨RX, 1, none⟩ = false := heap_frozen RN 1 (by omega)
      have y2 : W3.frozen? ⟨RX, 2, none⟩ = false := heap_frozen RN 2 (by omega)
      have y3 : W3.frozen? ⟨RX, 3, none⟩ = false := heap_frozen RN 3 (by omega)
      have y4 : W3.frozen? ⟨RX, 4, none⟩ = false := heap_frozen RN 4 (by omega)
      have hzz := heap_lt RN
      clear RN
      go_wp2_with fail
      clear hzz b0 b1 b2 b3 b4 y0 y1 y2 y3 y4 ON gn
      generalize (((((W3.setCell ⟨RX, 0, none⟩ (.slice p n cap)).setCell ⟨RX, 1, none⟩ (.int .i64 (fin : Int))).setCell ⟨RX, 2, none⟩ (.int .i64 ((a0 : Int) + 1))).setCell ⟨RX, 3, none⟩ (.int .i64 0)).setCell ⟨RX, 4, none⟩ (.int .i64 0)) = W4 at *
      replace S := S9
      clear S9
      go_meet
      case rel => exact ⟨a1, _, _, S, hid (by rw [hcT.out, ha1.out, ha0.out]; simp), by have := hpos.out; have := ha0.out; have := ha1.out; omega, hid (by rw [hcT.out])⟩
    | false =>
      have hcn : ¬nx.str.toList = [99, 111, 117, 110, 116] := by simpa using hcb
      replace hcb := hid hcb
      have hcT : isT T bCount = false := by
        have h := hc0.out
        rw [ha0.out, List.drop_zero] at h
        rw [h]
        rw [show bCount.toList = [99, 111, 117, 110, 116] from by kernel_rfl]
        simpa using hcn
      clear hcn
      replace hcT := hid hcT
      clear hin
      go_wp2_with fail
      go_meet
      case rel => exact ⟨a0, _, _, S, hid (by rw [hcT.out, ha0.out]; simp), ha0', hid (by rw [hcT.out])⟩
  case rest =>
  obtain ⟨a, k, cs, S, hTa, ha, hk⟩ := hcut
  obtain rfl := hk.out
  clear hk
  have LI := ROr_c T HOK.out p n cap fin a wc (TS.out _ S.out.grow) ha
  unfold rdV at LI
  rw [← hTa.out] at hres0
  generalize orP fin 32 (T.drop a) = pr at *
  replace LI := hid LI
  have b0 : wc.cell? ⟨RX, 0, none⟩ = some (.slice p n cap) := by rw [heap_cell S.out.rd]; rfl
  have b1 : wc.cell? ⟨RX, 1, none⟩ = some (.int .i64 (fin : Int)) := by rw [heap_cell S.out.rd]; rfl
  have b2 : wc.cell? ⟨RX, 2, none⟩ = some (.int .i64 (a : Int)) := by rw [heap_cell S.out.rd]; rfl
  have b3 : wc.cell? ⟨RX, 3, none⟩ = some (.int .i64 0) := by rw [heap_cell S.out.rd]; rfl
  have b4 : wc.cell? ⟨RX, 4, none⟩ = some (.int .i64 0) := by rw [heap_cell S.out.rd]; rfl
  have hzz := heap_lt S.out.rd
  go_wp2_with fail
  refine LI.out.mono ?_
  rintro e w3 ⟨a1, ee, qq, nd, v3, rfl, hin, g3, ha1, hee, hm⟩
  obtain ⟨mk, mp, ml, mc, mf, ms, mx, rfl⟩ := NodeR.In.value hin
  unfold rdV
  have hzq0 := heap_lt S.out.qu
  have S9 := hid (setRd S.out g3 hwX hXQ hQX a1 ee qq (x := .int .i64 (a1 : Int)) (y := .int .i64 (ee : Int)) (z := .int .i64 (qq : Int)) rfl rfl rfl)
  have Y9 := (by10 w3 RX RX (.slice p n cap) (.int .i64 (fin : Int)) (.int .i64 (a1 : Int)) (.int .i64 (ee : Int)) (.int .i64 (qq : Int)) undef undef undef undef undef).1
  have S10 := hid (setNode S9.out hwQ hXQ hQX (NodeR.In.weaken (S' := fun b => QX < b) (fun b _ hb => by have h : wc.heap.size ≤ b := hb; show QX < b; omega) (NodeR.In.grown (row := some RX) (fun b _ hb => by have h : wc.heap.size ≤ b := hb; simp; omega) Y9 hin)))
  have K2 := hid (show (ee = 0 ∧ qq = 0 ∧ ordRes fin ⟨nd, ⟨#[]⟩, false, -1, isT T bCount⟩ (T.drop a1) = res) ∨ (ee ≠ 0 ∧ res = .bad ee qq) from by
    have h0 := hres0.out
    cases pr with
    | bad x y =>
      obtain ⟨rfl, rfl, hx⟩ := hm
      exact .inr ⟨hx, h0.symm⟩
    | ok x R =>
      obtain ⟨rfl, rfl, rfl, rfl⟩ := hm
      exact .inl ⟨rfl, rfl, h0⟩)
  obtain ⟨c0, c1, c2, c3, c4, hcs, -⟩ := S.out.shape
  have RN := g3.heap S.out.rd
  have QN := g3.heap S.out.qu
  rw [hcs] at QN
  clear b0 b1 b2 b3 b4 hzz S9 Y9 hin hm g3 LI hcs
  have b0 : w3.cell? ⟨RX, 0, none⟩ = some (.slice p n cap) := by rw [heap_cell RN]; rfl
  have b1 : w3.cell? ⟨RX, 1, none⟩ = some (.int .i64 (fin : Int)) := by rw [heap_cell RN]; rfl
  have b2 : w3.cell? ⟨RX, 2, none⟩ = some (.int .i64 (a : Int)) := by rw [heap_cell RN]; rfl
  have b3 : w3.cell? ⟨RX, 3, none⟩ = some (.int .i64 0) := by rw [heap_cell RN]; rfl
  have b4 : w3.cell? ⟨RX, 4, none⟩ = some (.int .i64 0) := by rw [heap_cell RN]; rfl
  have y0 : w3.frozen? ⟨RX, 0, none⟩ = false := heap_frozen RN 0 (by omega)
  have y1 : w3.frozen? ⟨RX, 1, none⟩ = false := heap_frozen RN 1 (by omega)
  have y2 : w3.frozen? ⟨RX, 2, none⟩ = false := heap_frozen RN 2 (by omega)
  have y3 : w3.frozen? ⟨RX, 3, none⟩ = false := heap_frozen RN 3 (by omega)
  have y4 : w3.frozen? ⟨RX, 4, none⟩ = false := heap_frozen RN 4 (by omega)
  have d0 : w3.cell? ⟨QX, 0, none⟩ = some (c0) := by rw [heap_cell QN]; rfl
  have d1 : w3.cell? ⟨QX, 1, none⟩ = some (c1) := by rw [heap_cell QN]; rfl
  have d2 : w3.cell? ⟨QX, 2, none⟩ = some (c2) := by rw [heap_cell QN]; rfl
  have d3 : w3.cell? ⟨QX, 3, none⟩ = some (c3) := by rw [heap_cell QN]; rfl
  have d4 : w3.cell? ⟨QX, 4, none⟩ = some (c4) := by rw [heap_cell QN]; rfl
  have f0 : w3.frozen? ⟨QX, 0, none⟩ = false := heap_frozen QN 0 (by omega)
  have f1 : w3.frozen? ⟨QX, 1, none⟩ = false := heap_frozen QN 1 (by omega)
  have f2 : w3.frozen? ⟨QX, 2, none⟩ = false := heap_frozen QN 2 (by omega)
  have f3 : w3.frozen? ⟨QX, 3, none⟩ = false := heap_frozen QN 3 (by omega)
  have f4 : w3.frozen? ⟨QX, 4, none⟩ = false := heap_frozen QN 4 (by omega)
  have hzz := heap_lt RN
  have hzq := heap_lt QN
  clear RN QN S hzq0
  go_upto_region 10 with fail
  clear b0 b1 b2 b3 b4 y0 y1 y2 y3 y4 d0 d1 d2 d3 d4 f0 f1 f2 f3 f4 hzz hzq
  generalize ((((((((((w3.setCell ⟨RX, 0, none⟩ (.slice p n cap)).setCell ⟨RX, 1, none⟩ (.int .i64 (fin : Int))).setCell ⟨RX, 2, none⟩ (.int .i64 (a1 : Int))).setCell ⟨RX, 3, none⟩ (.int .i64 (ee : Int))).setCell ⟨RX, 4, none⟩ (.int .i64 (qq : Int))).setCell ⟨QX, 0, none⟩ (.int .i64 mk)).setCell ⟨QX, 1, none⟩ (.slice mp ml mc)).setCell ⟨QX, 2, none⟩ (.string mf)).setCell ⟨QX, 3, none⟩ (.string ms)).setCell ⟨QX, 4, none⟩ (.int .i64 mx)) = W5 at *
  have S := S10
  clear S10
  have la1 : a1 ≤ 4096 := by omega
  generalize isT T bCount = cn at *
  have NX := Rnext_c p n cap fin a1 ee qq T W5 (TS.out _ S.out.grow) (by omega) (by omega)
  unfold rdV at NX
  replace NX := hid NX
  have b0 : W5.cell? ⟨RX, 0, none⟩ = some (.slice p n cap) := by rw [heap_cell S.out.rd]; rfl
  have b1 : W5.cell? ⟨RX, 1, none⟩ = some (.int .i64 (fin : Int)) := by rw [heap_cell S.out.rd]; rfl
  have b2 : W5.cell? ⟨RX, 2, none⟩ = some (.int .i64 (a1 : Int)) := by rw [heap_cell S.out.rd]; rfl
  have b3 : W5.cell? ⟨RX, 3, none⟩ = some (.int .i64 (ee : Int)) := by rw [heap_cell S.out.rd]; rfl
  have b4 : W5.cell? ⟨RX, 4, none⟩ = some (.int .i64 (qq : Int)) := by rw [heap_cell S.out.rd]; rfl
  have hzz := heap_lt S.out.rd
  go_wp2_with fail
  refine NX.out.mono ?_
  rintro e W6 ⟨rfl, gn⟩
  unfold tokV
  replace S := hid (S.out.up gn)
  clear gn NX hzz b0 b1 b2 b3 b4
  generalize hnvnx2 : nextK T a1 ee = nx2 at *
  replace hnvnx2 := hid hnvnx2
  go_upto_if 42 with fail
  go_cut [] from 10 (fun wx => ∃ (a e q : Nat) (k : QueryR) (cs : Array Value), Hid (StR w1 wx p n cap fin RX QX RQ a e q k cs) ∧ a ≤ 6000 ∧ e ≤ 100 ∧ Hid (k.limit = -1) ∧ Hid ((e = 0 ∧ q = 0 ∧ a ≤ T.length ∧ limRes fin k (T.drop a) = res) ∨ (e ≠ 0 ∧ res = .bad e q)))
  case first =>
    cases hcb : (nx2.str.toList == [111, 114, 100, 101, 114]) with
    | false =>
      have K3 := hid (show (ee = 0 ∧ qq = 0 ∧ a1 ≤ T.length ∧ limRes fin ⟨nd, ⟨#[]⟩, false, -1, cn⟩ (T.drop a1) = res) ∨ (ee ≠ 0 ∧ res = .bad ee qq) from by
        rcases K2.out with ⟨h1, h2, h3⟩ | h
        · left
          subst h1
          refine ⟨rfl, h2, ha1, ?_⟩
          have h4 := isT_next ha1 (b := bOrder) (by kernel_rfl)
          rw [hnvnx2.out, show bOrder.toList = [111, 114, 100, 101, 114] from by kernel_rfl, hcb] at h4
          have h5 : orderP fin (T.drop a1) = .ok (⟨#[]⟩, false) (T.drop a1) := by unfold orderP; rw [if_neg (by rw [h4]; simp)]
          unfold ordRes at h3
          rw [h5] at h3
          exact h3
        · exact .inr h)
      replace hcb := hid hcb
      go_wp2_with fail
      go_meet
      case rel => exact ⟨a1, ee, qq, _, _, S, by omega, hee, hid rfl, K3⟩
    | true =>
      have hcn : nx2.str.toList = [111, 114, 100, 101, 114] := by simpa using hcb
      have hz0' : ee = 0 := by
        rcases Nat.eq_zero_or_pos ee with h | h
        · exact h
        · have h2 := hnvnx2.out
          rw [nextK_bad T a1 (by omega)] at h2
          rw [← h2, zero_str, show ByteArray.toList ⟨#[]⟩ = [] from by kernel_rfl] at hcn
          cases hcn
      subst hz0'
      obtain ⟨rfl, K2'⟩ : qq = 0 ∧ ordRes fin ⟨nd, ⟨#[]⟩, false, -1, cn⟩ (T.drop a1) = res := by
        rcases K2.out with ⟨-, h2, h3⟩ | ⟨h, -⟩
        · exact ⟨h2, h3⟩
        · exact absurd rfl h
      have hdr : T.drop a1 = nx2 :: T.drop (a1 + 1) ∧ a1 < T.length := by
        rcases next_cases T a1 ha1 with ⟨-, h⟩ | h
        · rw [hnvnx2.out] at h
          rw [h, zero_str, show ByteArray.toList ⟨#[]⟩ = [] from by kernel_rfl] at hcn
          cases hcn
        · rw [hnvnx2.out] at h
          exact h
      have K2'' := hid K2'
      have hlt := hdr.2
      have hdr := hid hdr.1
      have hisO := hid (show isT (nx2 :: T.drop (a1 + 1)) bOrder = true from by
        show (nx2.str.toList == bOrder.toList) = true
        rw [hcn, show bOrder.toList = [111, 114, 100, 101, 114] from by kernel_rfl]
        rfl)
      replace hcb := hid hcb
      clear K2 K2' hcn
      have ON := Ron_c p n cap fin a1 0 0 W6 (by omega)
      unfold rdV at ON
      replace ON := hid ON
      have b0 : W6.cell? ⟨RX, 0, none⟩ = some (.slice p n cap) := by rw [heap_cell S.out.rd]; rfl
      have b1 : W6.cell? ⟨RX, 1, none⟩ = some (.int .i64 (fin : Int)) := by rw [heap_cell S.out.rd]; rfl
      have b2 : W6.cell? ⟨RX, 2, none⟩ = some (.int .i64 (a1 : Int)) := by rw [heap_cell S.out.rd]; rfl
      have b3 : W6.cell? ⟨RX, 3, none⟩ = some (.int .i64 0) := by rw [heap_cell S.out.rd]; rfl
      have b4 : W6.cell? ⟨RX, 4, none⟩ = some (.int .i64 0) := by rw [heap_cell S.out.rd]; rfl
      have hzz := heap_lt S.out.rd
      go_wp2_with fail
      refine ON.out.mono ?_
      rintro e W7 ⟨rfl, gn⟩
      obtain ⟨a2, ha2⟩ : ∃ x : Nat, x = a1 + 1 := ⟨_, rfl⟩
      have S9 := hid (setRd S.out gn hwX hXQ hQX a2 0 0 (x := .int .i64 ((a1 : Int) + 1)) (y := .int .i64 0) (z := .int .i64 0) (by rw [ha2]; push_cast; rfl) rfl rfl)
      have la2 : a2 ≤ 4097 := by omega
      replace ha2 := hid ha2
      have RN := gn.heap S.out.rd
      clear b0 b1 b2 b3 b4 hzz
      have b0 : W7.cell? ⟨RX, 0, none⟩ = some (.slice p n cap) := by rw [heap_cell RN]; rfl
      have b1 : W7.cell? ⟨RX, 1, none⟩ = some (.int .i64 (fin : Int)) := by rw [heap_cell RN]; rfl
      have b2 : W7.cell? ⟨RX, 2, none⟩ = some (.int .i64 (a1 : Int)) := by rw [heap_cell RN]; rfl
      have b3 : W7.cell? ⟨RX, 3, none⟩ = some (.int .i64 0) := by rw [heap_cell RN]; rfl
      have b4 : W7.cell? ⟨RX, 4, none⟩ = some (.int .i64 0) := by rw [heap_cell RN]; rfl
      have y0 : W7.frozen? ⟨RX, 0, none⟩ = false := heap_frozen RN 0 (by omega)
      have y1 : W7.frozen? ⟨RX, 1, none⟩ = false := heap_frozen RN 1 (by omega)
      have y2 : W7.frozen? ⟨RX, 2, none⟩ = false := heap_frozen RN 2 (by omega)
      have y3 : W7.frozen? ⟨RX, 3, none⟩ = false := heap_frozen RN 3 (by omega)
      have y4 : W7.frozen? ⟨RX, 4, none⟩ = false := heap_frozen RN 4 (by omega)
      have hzz := heap_lt RN
      clear RN
      go_upto_region 12 with fail
      clear hzz b0 b1 b2 b3 b4 y0 y1 y2 y3 y4 ON gn
      generalize (((((W7.setCell ⟨RX, 0, none⟩ (.slice p n cap)).setCell ⟨RX, 1, none⟩ (.int .i64 (fin : Int))).setCell ⟨RX, 2, none⟩ (.int .i64 ((a1 : Int) + 1))).setCell ⟨RX, 3, none⟩ (.int .i64 0)).setCell ⟨RX, 4, none⟩ (.int .i64 0)) = W8 at *
      replace S := S9
      clear S9
      have ha2' : a2 ≤ T.length := by have := ha2.out; omega
      have hK2 := hid (show (match T.drop a2 with | [] => failP (α := ByteArray × Bool) fin 41 [] | t :: L1 => if fieldB t.str = true then .ok (t.str, isT L1 bDown) (if isT L1 bDown then L1.tail else L1) else failP fin 41 (t :: L1)) = orderP fin (T.drop a1) from by
        rw [hdr.out, ha2.out]
        unfold orderP
        rw [if_pos hisO.out]
        rfl)
      have NX := Rnext_c p n cap fin a2 0 0 T W8 (TS.out _ S.out.grow) (by omega) (by omega)
      unfold rdV at NX
      replace NX := hid NX
      have b0 : W8.cell? ⟨RX, 0, none⟩ = some (.slice p n cap) := by rw [heap_cell S.out.rd]; rfl
      have b1 : W8.cell? ⟨RX, 1, none⟩ = some (.int .i64 (fin : Int)) := by rw [heap_cell S.out.rd]; rfl
      have b2 : W8.cell? ⟨RX, 2, none⟩ = some (.int .i64 (a2 : Int)) := by rw [heap_cell S.out.rd]; rfl
      have b3 : W8.cell? ⟨RX, 3, none⟩ = some (.int .i64 0) := by rw [heap_cell S.out.rd]; rfl
      have b4 : W8.cell? ⟨RX, 4, none⟩ = some (.int .i64 0) := by rw [heap_cell S.out.rd]; rfl
      have hzz := heap_lt S.out.rd
      go_wp2_with fail
      refine NX.out.mono ?_
      rintro e W9 ⟨rfl, gn⟩
      unfold tokV
      replace S := hid (S.out.up gn)
      clear gn NX hzz b0 b1 b2 b3 b4
      have hNC := hid (next_cases T a2 ha2')
      generalize hnv3 : nextK T a2 0 = nx3 at *
      replace hnv3 := hid hnv3
      have hin := S.out.node
      have f5 : W9.cell? ⟨QX, 5, none⟩ = some (.string ⟨#[]⟩) := by rw [heap_cell S.out.qu]; rfl
      have z5 : W9.frozen? ⟨QX, 5, none⟩ = false := heap_frozen S.out.qu 5 (by simp)
      have hzq := heap_lt S.out.qu
      have S2 := hid (setQ S.out hwQ hXQ hQX hin 5 (.string nx3.str) ⟨nd, nx3.str, false, -1, cn⟩ rfl _ rfl (heap_set S.out.qu 5 _))
      go_upto_region 13 with fail
      generalize W9.setCell ⟨QX, 5, none⟩ (.string nx3.str) = W10 at *
      have S := S2
      clear S2 f5 z5 hzq hin
      have FL := hid (RField_c nx3.str W10)
      have f5 : W10.cell? ⟨QX, 5, none⟩ = some (.string nx3.str) := by rw [heap_cell S.out.qu]; rfl
      have hzq := heap_lt S.out.qu
      go_wp2_with fail
      refine FL.out.mono ?_
      rintro e W11 ⟨rfl, gn⟩
      replace S := hid (S.out.up gn)
      clear gn FL f5 hzq
      cases hfb : fieldB nx3.str with
      | false =>
        have hK3 := hid (show res = failP fin 41 (T.drop a2) from by
          have h1 := hK2.out
          have h2 := K2''.out
          unfold ordRes at h2
          rw [← h1] at h2
          rcases hNC.out with ⟨h3, h4⟩ | ⟨h3, -⟩
          · rw [h3] at h2 ⊢
            exact h2.symm
          · rw [h3] at h2 ⊢
            simp only [hfb, Bool.false_eq_true, if_false] at h2
            exact h2.symm)
        replace hfb := hid hfb
        have FN := RfailNew_c p n cap fin a2 0 41 T W11 (TS.out _ S.out.grow) (by omega)
        unfold rdV at FN
        replace FN := hid FN
        have b0 : W11.cell? ⟨RX, 0, none⟩ = some (.slice p n cap) := by rw [heap_cell S.out.rd]; rfl
        have b1 : W11.cell? ⟨RX, 1, none⟩ = some (.int .i64 (fin : Int)) := by rw [heap_cell S.out.rd]; rfl
        have b2 : W11.cell? ⟨RX, 2, none⟩ = some (.int .i64 (a2 : Int)) := by rw [heap_cell S.out.rd]; rfl
        have b3 : W11.cell? ⟨RX, 3, none⟩ = some (.int .i64 0) := by rw [heap_cell S.out.rd]; rfl
        have b4 : W11.cell? ⟨RX, 4, none⟩ = some (.int .i64 0) := by rw [heap_cell S.out.rd]; rfl
        have hzz := heap_lt S.out.rd
        go_wp2_with fail
        refine FN.out.mono ?_
        rintro e W12 ⟨rfl, gn⟩
        have S9 := hid (setRd S.out gn hwX hXQ hQX a2 (failE 41 (T.drop a2)) (failAt fin (T.drop a2)) (x := .int .i64 ((a2 : Nat) : Int)) (y := .int .i64 ((failE 41 (T.drop a2) : Nat) : Int)) (z := .int .i64 ((failAt fin (T.drop a2) : Nat) : Int)) rfl rfl rfl)
        have RN := gn.heap S.out.rd
        clear b0 b1 b2 b3 b4 hzz
        have b0 : W12.cell? ⟨RX, 0, none⟩ = some (.slice p n cap) := by rw [heap_cell RN]; rfl
        have b1 : W12.cell? ⟨RX, 1, none⟩ = some (.int .i64 (fin : Int)) := by rw [heap_cell RN]; rfl
        have b2 : W12.cell? ⟨RX, 2, none⟩ = some (.int .i64 (a2 : Int)) := by rw [heap_cell RN]; rfl
        have b3 : W12.cell? ⟨RX, 3, none⟩ = some (.int .i64 0) := by rw [heap_cell RN]; rfl
        have b4 : W12.cell? ⟨RX, 4, none⟩ = some (.int .i64 0) := by rw [heap_cell RN]; rfl
        have y0 : W12.frozen? ⟨RX, 0, none⟩ = false := heap_frozen RN 0 (by omega)
        have y1 : W12.frozen? ⟨RX, 1, none⟩ = false := heap_frozen RN 1 (by omega)
        have y2 : W12.frozen? ⟨RX, 2, none⟩ = false := heap_frozen RN 2 (by omega)
        have y3 : W12.frozen? ⟨RX, 3, none⟩ = false := heap_frozen RN 3 (by omega)
        have y4 : W12.frozen? ⟨RX, 4, none⟩ = false := heap_frozen RN 4 (by omega)
        have hzz := heap_lt RN
        clear RN
        go_upto_region 15 with fail
        clear hzz b0 b1 b2 b3 b4 y0 y1 y2 y3 y4 FN gn
        generalize (((((W12.setCell ⟨RX, 0, none⟩ (.slice p n cap)).setCell ⟨RX, 1, none⟩ (.int .i64 (fin : Int))).setCell ⟨RX, 2, none⟩ (.int .i64 ((a2 : Nat) : Int))).setCell ⟨RX, 3, none⟩ (.int .i64 ((failE 41 (T.drop a2) : Nat) : Int))).setCell ⟨RX, 4, none⟩ (.int .i64 ((failAt fin (T.drop a2) : Nat) : Int))) = W13 at *
        replace S := S9
        clear S9
        obtain ⟨ef, hef⟩ : ∃ x : Nat, failE 41 (T.drop a2) = x := ⟨_, rfl⟩
        obtain ⟨qf, hqf⟩ : ∃ x : Nat, failAt fin (T.drop a2) = x := ⟨_, rfl⟩
        have hneef : ef ≠ 0 ∧ ef ≤ 100 := by rw [← hef]; exact failE_ne 41 _ (by omega) (by omega)
        rw [hef, hqf] at S
        have ON := Ron_c p n cap fin a2 ef qf W13 (by omega)
        unfold rdV at ON
        replace ON := hid ON
        have b0 : W13.cell? ⟨RX, 0, none⟩ = some (.slice p n cap) := by rw [heap_cell S.out.rd]; rfl
        have b1 : W13.cell? ⟨RX, 1, none⟩ = some (.int .i64 (fin : Int)) := by rw [heap_cell S.out.rd]; rfl
        have b2 : W13.cell? ⟨RX, 2, none⟩ = some (.int .i64 (a2 : Int)) := by rw [heap_cell S.out.rd]; rfl
        have b3 : W13.cell? ⟨RX, 3, none⟩ = some (.int .i64 (ef : Int)) := by rw [heap_cell S.out.rd]; rfl
        have b4 : W13.cell? ⟨RX, 4, none⟩ = some (.int .i64 (qf : Int)) := by rw [heap_cell S.out.rd]; rfl
        have hzz := heap_lt S.out.rd
        go_wp2_with fail
        refine ON.out.mono ?_
        rintro e W14 ⟨rfl, gn⟩
        obtain ⟨a3, ha3⟩ : ∃ x : Nat, x = a2 + 1 := ⟨_, rfl⟩
        have S9 := hid (setRd S.out gn hwX hXQ hQX a3 ef qf (x := .int .i64 ((a2 : Int) + 1)) (y := .int .i64 (ef : Int)) (z := .int .i64 (qf : Int)) (by rw [ha3]; push_cast; rfl) rfl rfl)
        have la3 : a3 ≤ 4098 := by omega
        replace ha3 := hid ha3
        have RN := gn.heap S.out.rd
        clear b0 b1 b2 b3 b4 hzz
        have b0 : W14.cell? ⟨RX, 0, none⟩ = some (.slice p n cap) := by rw [heap_cell RN]; rfl
        have b1 : W14.cell? ⟨RX, 1, none⟩ = some (.int .i64 (fin : Int)) := by rw [heap_cell RN]; rfl
        have b2 : W14.cell? ⟨RX, 2, none⟩ = some (.int .i64 (a2 : Int)) := by rw [heap_cell RN]; rfl
        have b3 : W14.cell? ⟨RX, 3, none⟩ = some (.int .i64 (ef : Int)) := by rw [heap_cell RN]; rfl
        have b4 : W14.cell? ⟨RX, 4, none⟩ = some (.int .i64 (qf : Int)) := by rw [heap_cell RN]; rfl
        have y0 : W14.frozen? ⟨RX, 0, none⟩ = false := heap_frozen RN 0 (by omega)
        have y1 : W14.frozen? ⟨RX, 1, none⟩ = false := heap_frozen RN 1 (by omega)
        have y2 : W14.frozen? ⟨RX, 2, none⟩ = false := heap_frozen RN 2 (by omega)
        have y3 : W14.frozen? ⟨RX, 3, none⟩ = false := heap_frozen RN 3 (by omega)
        have y4 : W14.frozen? ⟨RX, 4, none⟩ = false := heap_frozen RN 4 (by omega)
        have hzz := heap_lt RN
        clear RN
        go_upto_region 16 with fail
        clear hzz b0 b1 b2 b3 b4 y0 y1 y2 y3 y4 ON gn
        generalize (((((W14.setCell ⟨RX, 0, none⟩ (.slice p n cap)).setCell ⟨RX, 1, none⟩ (.int .i64 (fin : Int))).setCell ⟨RX, 2, none⟩ (.int .i64 ((a2 : Int) + 1))).setCell ⟨RX, 3, none⟩ (.int .i64 (ef : Int))).setCell ⟨RX, 4, none⟩ (.int .i64 (qf : Int))) = W15 at *
        replace S := S9
        clear S9
        have NX := Rnext_c p n cap fin a3 ef qf T W15 (TS.out _ S.out.grow) (by omega) (by omega)
        unfold rdV at NX
        replace NX := hid NX
        have b0 : W15.cell? ⟨RX, 0, none⟩ = some (.slice p n cap) := by rw [heap_cell S.out.rd]; rfl
        have b1 : W15.cell? ⟨RX, 1, none⟩ = some (.int .i64 (fin : Int)) := by rw [heap_cell S.out.rd]; rfl
        have b2 : W15.cell? ⟨RX, 2, none⟩ = some (.int .i64 (a3 : Int)) := by rw [heap_cell S.out.rd]; rfl
        have b3 : W15.cell? ⟨RX, 3, none⟩ = some (.int .i64 (ef : Int)) := by rw [heap_cell S.out.rd]; rfl
        have b4 : W15.cell? ⟨RX, 4, none⟩ = some (.int .i64 (qf : Int)) := by rw [heap_cell S.out.rd]; rfl
        have hzz := heap_lt S.out.rd
        go_wp2_with fail
        refine NX.out.mono ?_
        rintro e W16 ⟨rfl, gn⟩
        unfold tokV
        replace S := hid (S.out.up gn)
        clear gn NX hzz b0 b1 b2 b3 b4
        generalize hnvnx4 : nextK T a3 ef = nx4 at *
        replace hnvnx4 := hid hnvnx4
        have hno : (nx4.str.toList == [100, 111, 119, 110]) = false := by
          have h2 := hnvnx4.out
          rw [nextK_bad T a3 hneef.1] at h2
          rw [← h2, zero_str, show ByteArray.toList ⟨#[]⟩ = [] from by kernel_rfl]
          rfl
        have K3 := hid (show (ef = 0 ∧ qf = 0 ∧ a3 ≤ T.length ∧ limRes fin ⟨nd, nx3.str, false, -1, cn⟩ (T.drop a3) = res) ∨ (ef ≠ 0 ∧ res = .bad ef qf) from by
          right
          refine ⟨hneef.1, ?_⟩
          rw [hK3.out]
          unfold failP
          rw [hef, hqf])
        go_upto_if 60 with fail
        generalize (nx4.str.toList == [100, 111, 119, 110]) = bb at *
        subst hno
        go_wp2_with fail
        go_meet
        case rel => exact ⟨a3, ef, qf, _, _, S, by omega, hneef.2, hid rfl, K3⟩
      | true =>
        obtain ⟨hd2, hl2⟩ : T.drop a2 = nx3 :: T.drop (a2 + 1) ∧ a2 < T.length := by
          rcases hNC.out with ⟨-, h⟩ | h
          · rw [h, zero_str] at hfb
            rw [show fieldB ⟨#[]⟩ = false from by kernel_rfl] at hfb
            cases hfb
          · exact h
        have hO := hid (show orderP fin (T.drop a1) = .ok (nx3.str, isT (T.drop (a2 + 1)) bDown) (if isT (T.drop (a2 + 1)) bDown then (T.drop (a2 + 1)).tail else T.drop (a2 + 1)) from by
          rw [← hK2.out, hd2]
          simp only [hfb, if_true])
        replace hd2 := hid hd2
        replace hfb := hid hfb
        have ON := Ron_c p n cap fin a2 0 0 W11 (by omega)
        unfold rdV at ON
        replace ON := hid ON
        have b0 : W11.cell? ⟨RX, 0, none⟩ = some (.slice p n cap) := by rw [heap_cell S.out.rd]; rfl
        have b1 : W11.cell? ⟨RX, 1, none⟩ = some (.int .i64 (fin : Int)) := by rw [heap_cell S.out.rd]; rfl
        have b2 : W11.cell? ⟨RX, 2, none⟩ = some (.int .i64 (a2 : Int)) := by rw [heap_cell S.out.rd]; rfl
        have b3 : W11.cell? ⟨RX, 3, none⟩ = some (.int .i64 0) := by rw [heap_cell S.out.rd]; rfl
        have b4 : W11.cell? ⟨RX, 4, none⟩ = some (.int .i64 0) := by rw [heap_cell S.out.rd]; rfl
        have hzz := heap_lt S.out.rd
        go_wp2_with fail
        refine ON.out.mono ?_
        rintro e W12 ⟨rfl, gn⟩
        obtain ⟨a3, ha3⟩ : ∃ x : Nat, x = a2 + 1 := ⟨_, rfl⟩
        have S9 := hid (setRd S.out gn hwX hXQ hQX a3 0 0 (x := .int .i64 ((a2 : Int) + 1)) (y := .int .i64 0) (z := .int .i64 0) (by rw [ha3]; push_cast; rfl) rfl rfl)
        have la3 : a3 ≤ 4098 := by omega
        replace ha3 := hid ha3
        have RN := gn.heap S.out.rd
        clear b0 b1 b2 b3 b4 hzz
        have b0 : W12.cell? ⟨RX, 0, none⟩ = some (.slice p n cap) := by rw [heap_cell RN]; rfl
        have b1 : W12.cell? ⟨RX, 1, none⟩ = some (.int .i64 (fin : Int)) := by rw [heap_cell RN]; rfl
        have b2 : W12.cell? ⟨RX, 2, none⟩ = some (.int .i64 (a2 : Int)) := by rw [heap_cell RN]; rfl
        have b3 : W12.cell? ⟨RX, 3, none⟩ = some (.int .i64 0) := by rw [heap_cell RN]; rfl
        have b4 : W12.cell? ⟨RX, 4, none⟩ = some (.int .i64 0) := by rw [heap_cell RN]; rfl
        have y0 : W12.frozen? ⟨RX, 0, none⟩ = false := heap_frozen RN 0 (by omega)
        have y1 : W12.frozen? ⟨RX, 1, none⟩ = false := heap_frozen RN 1 (by omega)
        have y2 : W12.frozen? ⟨RX, 2, none⟩ = false := heap_frozen RN 2 (by omega)
        have y3 : W12.frozen? ⟨RX, 3, none⟩ = false := heap_frozen RN 3 (by omega)
        have y4 : W12.frozen? ⟨RX, 4, none⟩ = false := heap_frozen RN 4 (by omega)
        have hzz := heap_lt RN
        clear RN
        go_upto_region 16 with fail
        clear hzz b0 b1 b2 b3 b4 y0 y1 y2 y3 y4 ON gn
        generalize (((((W12.setCell ⟨RX, 0, none⟩ (.slice p n cap)).setCell ⟨RX, 1, none⟩ (.int .i64 (fin : Int))).setCell ⟨RX, 2, none⟩ (.int .i64 ((a2 : Int) + 1))).setCell ⟨RX, 3, none⟩ (.int .i64 0)).setCell ⟨RX, 4, none⟩ (.int .i64 0)) = W13 at *
        replace S := S9
        clear S9
        have ha3' : a3 ≤ T.length := by have := ha3.out; omega
        have NX := Rnext_c p n cap fin a3 0 0 T W13 (TS.out _ S.out.grow) (by omega) (by omega)
        unfold rdV at NX
        replace NX := hid NX
        have b0 : W13.cell? ⟨RX, 0, none⟩ = some (.slice p n cap) := by rw [heap_cell S.out.rd]; rfl
        have b1 : W13.cell? ⟨RX, 1, none⟩ = some (.int .i64 (fin : Int)) := by rw [heap_cell S.out.rd]; rfl
        have b2 : W13.cell? ⟨RX, 2, none⟩ = some (.int .i64 (a3 : Int)) := by rw [heap_cell S.out.rd]; rfl
        have b3 : W13.cell? ⟨RX, 3, none⟩ = some (.int .i64 0) := by rw [heap_cell S.out.rd]; rfl
        have b4 : W13.cell? ⟨RX, 4, none⟩ = some (.int .i64 0) := by rw [heap_cell S.out.rd]; rfl
        have hzz := heap_lt S.out.rd
        go_wp2_with fail
        refine NX.out.mono ?_
        rintro e W14 ⟨rfl, gn⟩
        unfold tokV
        replace S := hid (S.out.up gn)
        clear gn NX hzz b0 b1 b2 b3 b4
        generalize hnvnx4 : nextK T a3 0 = nx4 at *
        replace hnvnx4 := hid hnvnx4
        have hiD := hid (isT_next ha3' (b := bDown) (by kernel_rfl))
        rw [hnvnx4.out, show bDown.toList = [100, 111, 119, 110] from by kernel_rfl] at hiD
        have hK4 := hid (show limRes fin ⟨nd, nx3.str, isT (T.drop a3) bDown, -1, cn⟩ (if isT (T.drop a3) bDown then (T.drop a3).tail else T.drop a3) = res from by
          have h2 := K2''.out
          unfold ordRes at h2
          rw [hO.out, ← ha3.out] at h2
          exact h2)
        have hNC4 := hid (next_cases T a3 ha3')
        go_upto_if 60 with fail
        cases hdb : (nx4.str.toList == [100, 111, 119, 110]) with
        | false =>
          have K3 := hid (show limRes fin ⟨nd, nx3.str, false, -1, cn⟩ (T.drop a3) = res from by
            have h1 := hK4.out
            rw [hiD.out, hdb] at h1
            exact h1)
          replace hdb := hid hdb
          go_wp2_with fail
          go_meet
          case rel => exact ⟨a3, 0, 0, _, _, S, by omega, by omega, hid rfl, hid (.inl ⟨rfl, rfl, ha3', K3.out⟩)⟩
        | true =>
          have hin := S.out.node
          have h1 := hK4.out
          rw [hiD.out, hdb] at h1
          simp only [if_true, List.tail_drop] at h1
          have hl3 : a3 < T.length := by
            rcases hNC4.out with ⟨-, h⟩ | ⟨-, h⟩
            · rw [hnvnx4.out] at h
              rw [h, zero_str, show ByteArray.toList ⟨#[]⟩ = [] from by kernel_rfl] at hdb
              cases hdb
            · exact h
          replace h1 := hid h1
          have f6 : W14.cell? ⟨QX, 6, none⟩ = some (.bool false) := by rw [heap_cell S.out.qu]; rfl
          have z6 : W14.frozen? ⟨QX, 6, none⟩ = false := heap_frozen S.out.qu 6 (by simp)
          have hzq := heap_lt S.out.qu
          have S2 := hid (setQ S.out hwQ hXQ hQX hin 6 (.bool true) ⟨nd, nx3.str, true, -1, cn⟩ rfl _ rfl (heap_set S.out.qu 6 _))
          replace hdb := hid hdb
          go_upto_region 18 with fail
          generalize W14.setCell ⟨QX, 6, none⟩ (.bool true) = W15 at *
          have S := S2
          clear S2 f6 z6 hzq hin
          have ON := Ron_c p n cap fin a3 0 0 W15 (by omega)
          unfold rdV at ON
          replace ON := hid ON
          have b0 : W15.cell? ⟨RX, 0, none⟩ = some (.slice p n cap) := by rw [heap_cell S.out.rd]; rfl
          have b1 : W15.cell? ⟨RX, 1, none⟩ = some (.int .i64 (fin : Int)) := by rw [heap_cell S.out.rd]; rfl
          have b2 : W15.cell? ⟨RX, 2, none⟩ = some (.int .i64 (a3 : Int)) := by rw [heap_cell S.out.rd]; rfl
          have b3 : W15.cell? ⟨RX, 3, none⟩ = some (.int .i64 0) := by rw [heap_cell S.out.rd]; rfl
          have b4 : W15.cell? ⟨RX, 4, none⟩ = some (.int .i64 0) := by rw [heap_cell S.out.rd]; rfl
          have hzz := heap_lt S.out.rd
          go_wp2_with fail
          refine ON.out.mono ?_
          rintro e W16 ⟨rfl, gn⟩
          obtain ⟨a4, ha4⟩ : ∃ x : Nat, x = a3 + 1 := ⟨_, rfl⟩
          have S9 := hid (setRd S.out gn hwX hXQ hQX a4 0 0 (x := .int .i64 ((a3 : Int) + 1)) (y := .int .i64 0) (z := .int .i64 0) (by rw [ha4]; push_cast; rfl) rfl rfl)
          have la4 : a4 ≤ 4099 := by omega
          replace ha4 := hid ha4
          have RN := gn.heap S.out.rd
          clear b0 b1 b2 b3 b4 hzz
          have b0 : W16.cell? ⟨RX, 0, none⟩ = some (.slice p n cap) := by rw [heap_cell RN]; rfl
          have b1 : W16.cell? ⟨RX, 1, none⟩ = some (.int .i64 (fin : Int)) := by rw [heap_cell RN]; rfl
          have b2 : W16.cell? ⟨RX, 2, none⟩ = some (.int .i64 (a3 : Int)) := by rw [heap_cell RN]; rfl
          have b3 : W16.cell? ⟨RX, 3, none⟩ = some (.int .i64 0) := by rw [heap_cell RN]; rfl
          have b4 : W16.cell? ⟨RX, 4, none⟩ = some (.int .i64 0) := by rw [heap_cell RN]; rfl
          have y0 : W16.frozen? ⟨RX, 0, none⟩ = false := heap_frozen RN 0 (by omega)
          have y1 : W16.frozen? ⟨RX, 1, none⟩ = false := heap_frozen RN 1 (by omega)
          have y2 : W16.frozen? ⟨RX, 2, none⟩ = false := heap_frozen RN 2 (by omega)
          have y3 : W16.frozen? ⟨RX, 3, none⟩ = false := heap_frozen RN 3 (by omega)
          have y4 : W16.frozen? ⟨RX, 4, none⟩ = false := heap_frozen RN 4 (by omega)
          have hzz := heap_lt RN
          clear RN
          go_wp2_with fail
          clear hzz b0 b1 b2 b3 b4 y0 y1 y2 y3 y4 ON gn
          generalize (((((W16.setCell ⟨RX, 0, none⟩ (.slice p n cap)).setCell ⟨RX, 1, none⟩ (.int .i64 (fin : Int))).setCell ⟨RX, 2, none⟩ (.int .i64 ((a3 : Int) + 1))).setCell ⟨RX, 3, none⟩ (.int .i64 0)).setCell ⟨RX, 4, none⟩ (.int .i64 0)) = W17 at *
          replace S := S9
          clear S9
          have K3 := hid (show ((0 : Nat) = 0 ∧ (0 : Nat) = 0 ∧ a4 ≤ T.length ∧ limRes fin ⟨nd, nx3.str, true, -1, cn⟩ (T.drop a4) = res) ∨ ((0 : Nat) ≠ 0 ∧ res = .bad 0 0) from by
            left
            exact ⟨rfl, rfl, by have := ha4.out; omega, by rw [ha4.out]; exact h1.out⟩)
          go_meet
          case rel => exact ⟨a4, 0, 0, _, _, S, by omega, by omega, hid rfl, K3⟩
  case rest =>
  obtain ⟨b, eb, qb, k, cs, S, lb, leb, hkl, K3⟩ := hcut
  clear K2
  have NX := Rnext_c p n cap fin b eb qb T wc (TS.out _ S.out.grow) (by omega) (by omega)
  unfold rdV at NX
  replace NX := hid NX
  have b0 : wc.cell? ⟨RX, 0, none⟩ = some (.slice p n cap) := by rw [heap_cell S.out.rd]; rfl
  have b1 : wc.cell? ⟨RX, 1, none⟩ = some (.int .i64 (fin : Int)) := by rw [heap_cell S.out.rd]; rfl
  have b2 : wc.cell? ⟨RX, 2, none⟩ = some (.int .i64 (b : Int)) := by rw [heap_cell S.out.rd]; rfl
  have b3 : wc.cell? ⟨RX, 3, none⟩ = some (.int .i64 (eb : Int)) := by rw [heap_cell S.out.rd]; rfl
  have b4 : wc.cell? ⟨RX, 4, none⟩ = some (.int .i64 (qb : Int)) := by rw [heap_cell S.out.rd]; rfl
  have hzz := heap_lt S.out.rd
  go_wp2_with fail
  refine NX.out.mono ?_
  rintro e V1 ⟨rfl, gn⟩
  unfold tokV
  replace S := hid (S.out.up gn)
  clear gn NX hzz b0 b1 b2 b3 b4
  generalize hnvnx5 : nextK T b eb = nx5 at *
  replace hnvnx5 := hid hnvnx5
  go_upto_if 67 with fail
  go_cut [] from 10 (fun wx => ∃ (a e q : Nat) (k : QueryR) (cs : Array Value), Hid (StR w1 wx p n cap fin RX QX RQ a e q k cs) ∧ a ≤ 8000 ∧ e ≤ 100 ∧ Hid ((e = 0 ∧ q = 0 ∧ a ≤ T.length ∧ endP fin k (T.drop a) = res) ∨ (e ≠ 0 ∧ res = .bad e q)))
  case first =>
    cases hcb : (nx5.str.toList == [108, 105, 109, 105, 116]) with
    | false =>
      have K4 := hid (show (eb = 0 ∧ qb = 0 ∧ b ≤ T.length ∧ endP fin k (T.drop b) = res) ∨ (eb ≠ 0 ∧ res = .bad eb qb) from by
        rcases K3.out with ⟨h1, h2, h0, h3⟩ | h
        · left
          subst h1
          refine ⟨rfl, h2, h0, ?_⟩
          have h4 := isT_next h0 (b := bLimit) (by kernel_rfl)
          rw [hnvnx5.out, show bLimit.toList = [108, 105, 109, 105, 116] from by kernel_rfl, hcb] at h4
          have h5 : limitP fin (T.drop b) = .ok (-1) (T.drop b) := by unfold limitP; rw [if_neg (by rw [h4]; simp)]
          unfold limRes at h3
          rw [h5] at h3
          simp only at h3
          have h6 : ({ k with limit := -1 } : QueryR) = k := by
            have := hkl.out
            obtain ⟨k1, k2, k3, k4, k5⟩ := k
            simp only at this
            rw [this]
          rw [h6] at h3
          exact h3
        · exact .inr h)
      replace hcb := hid hcb
      go_wp2_with fail
      go_meet
      case rel => exact ⟨b, eb, qb, k, cs, S, by omega, leb, K4⟩
    | true =>
      have hcn : nx5.str.toList = [108, 105, 109, 105, 116] := by simpa using hcb
      have hz0' : eb = 0 := by
        rcases Nat.eq_zero_or_pos eb with h | h
        · exact h
        · have h2 := hnvnx5.out
          rw [nextK_bad T b (by omega)] at h2
          rw [← h2, zero_str, show ByteArray.toList ⟨#[]⟩ = [] from by kernel_rfl] at hcn
          cases hcn
      subst hz0'
      obtain ⟨rfl, hb', K3'⟩ : qb = 0 ∧ b ≤ T.length ∧ limRes fin k (T.drop b) = res := by
        rcases K3.out with ⟨-, h2, h0, h3⟩ | ⟨h, -⟩
        · exact ⟨h2, h0, h3⟩
        · exact absurd rfl h
      have hdr : T.drop b = nx5 :: T.drop (b + 1) ∧ b < T.length := by
        rcases next_cases T b hb' with ⟨-, h⟩ | h
        · rw [hnvnx5.out] at h
          rw [h, zero_str, show ByteArray.toList ⟨#[]⟩ = [] from by kernel_rfl] at hcn
          cases hcn
        · rw [hnvnx5.out] at h
          exact h
      have hlt := hdr.2
      have hdr := hid hdr.1
      have hisO := hid (show isT (nx5 :: T.drop (b + 1)) bLimit = true from by
        show (nx5.str.toList == bLimit.toList) = true
        rw [hcn, show bLimit.toList = [108, 105, 109, 105, 116] from by kernel_rfl]
        rfl)
      replace hcb := hid hcb
      replace K3' := hid K3'
      clear K3 hcn
      have ON := Ron_c p n cap fin b 0 0 V1 (by omega)
      unfold rdV at ON
      replace ON := hid ON
      have b0 : V1.cell? ⟨RX, 0, none⟩ = some (.slice p n cap) := by rw [heap_cell S.out.rd]; rfl
      have b1 : V1.cell? ⟨RX, 1, none⟩ = some (.int .i64 (fin : Int)) := by rw [heap_cell S.out.rd]; rfl
      have b2 : V1.cell? ⟨RX, 2, none⟩ = some (.int .i64 (b : Int)) := by rw [heap_cell S.out.rd]; rfl
      have b3 : V1.cell? ⟨RX, 3, none⟩ = some (.int .i64 0) := by rw [heap_cell S.out.rd]; rfl
      have b4 : V1.cell? ⟨RX, 4, none⟩ = some (.int .i64 0) := by rw [heap_cell S.out.rd]; rfl
      have hzz := heap_lt S.out.rd
      go_wp2_with fail
      refine ON.out.mono ?_
      rintro e V2 ⟨rfl, gn⟩
      obtain ⟨t2, ht2⟩ : ∃ x : Nat, x = b + 1 := ⟨_, rfl⟩
      have S9 := hid (setRd S.out gn hwX hXQ hQX t2 0 0 (x := .int .i64 ((b : Int) + 1)) (y := .int .i64 0) (z := .int .i64 0) (by rw [ht2]; push_cast; rfl) rfl rfl)
      have lt2 : t2 ≤ 7001 := by omega
      replace ht2 := hid ht2
      have RN := gn.heap S.out.rd
      clear b0 b1 b2 b3 b4 hzz
      have b0 : V2.cell? ⟨RX, 0, none⟩ = some (.slice p n cap) := by rw [heap_cell RN]; rfl
      have b1 : V2.cell? ⟨RX, 1, none⟩ = some (.int .i64 (fin : Int)) := by rw [heap_cell RN]; rfl
      have b2 : V2.cell? ⟨RX, 2, none⟩ = some (.int .i64 (b : Int)) := by rw [heap_cell RN]; rfl
      have b3 : V2.cell? ⟨RX, 3, none⟩ = some (.int .i64 0) := by rw [heap_cell RN]; rfl
      have b4 : V2.cell? ⟨RX, 4, none⟩ = some (.int .i64 0) := by rw [heap_cell RN]; rfl
      have y0 : V2.frozen? ⟨RX, 0, none⟩ = false := heap_frozen RN 0 (by omega)
      have y1 : V2.frozen? ⟨RX, 1, none⟩ = false := heap_frozen RN 1 (by omega)
      have y2 : V2.frozen? ⟨RX, 2, none⟩ = false := heap_frozen RN 2 (by omega)
      have y3 : V2.frozen? ⟨RX, 3, none⟩ = false := heap_frozen RN 3 (by omega)
      have y4 : V2.frozen? ⟨RX, 4, none⟩ = false := heap_frozen RN 4 (by omega)
      have hzz := heap_lt RN
      clear RN
      go_upto_region 21 with fail
      clear hzz b0 b1 b2 b3 b4 y0 y1 y2 y3 y4 ON gn
      generalize (((((V2.setCell ⟨RX, 0, none⟩ (.slice p n cap)).setCell ⟨RX, 1, none⟩ (.int .i64 (fin : Int))).setCell ⟨RX, 2, none⟩ (.int .i64 ((b : Int) + 1))).setCell ⟨RX, 3, none⟩ (.int .i64 0)).setCell ⟨RX, 4, none⟩ (.int .i64 0)) = V3 at *
      replace S := S9
      clear S9
      have ht2' : t2 ≤ T.length := by have := ht2.out; omega
      have hL := hid (show limitP fin (T.drop b) = (match T.drop t2 with | [] => failP fin 41 [] | t :: L1 => if t.num < 0 then failP fin 43 (t :: L1) else if t.kind = 2 then .ok t.num L1 else failP fin 41 (t :: L1)) from by
        rw [hdr.out, ht2.out]
        unfold limitP
        rw [if_pos hisO.out]
        rfl)
      have hNC := hid (next_cases T t2 ht2')
      have NX := Rnext_c p n cap fin t2 0 0 T V3 (TS.out _ S.out.grow) (by omega) (by omega)
      unfold rdV at NX
      replace NX := hid NX
      have b0 : V3.cell? ⟨RX, 0, none⟩ = some (.slice p n cap) := by rw [heap_cell S.out.rd]; rfl
      have b1 : V3.cell? ⟨RX, 1, none⟩ = some (.int .i64 (fin : Int)) := by rw [heap_cell S.out.rd]; rfl
      have b2 : V3.cell? ⟨RX, 2, none⟩ = some (.int .i64 (t2 : Int)) := by rw [heap_cell S.out.rd]; rfl
      have b3 : V3.cell? ⟨RX, 3, none⟩ = some (.int .i64 0) := by rw [heap_cell S.out.rd]; rfl
      have b4 : V3.cell? ⟨RX, 4, none⟩ = some (.int .i64 0) := by rw [heap_cell S.out.rd]; rfl
      have hzz := heap_lt S.out.rd
      go_wp2_with fail
      refine NX.out.mono ?_
      rintro e V4 ⟨rfl, gn⟩
      unfold tokV
      replace S := hid (S.out.up gn)
      clear gn NX hzz b0 b1 b2 b3 b4
      generalize hnvnx6 : nextK T t2 0 = nx6 at *
      replace hnvnx6 := hid hnvnx6
      have hR := hid (show (nx6.num < 0 → res = failP fin 43 (T.drop t2)) ∧ (¬nx6.num < 0 → nx6.kind ≠ 2 → res = failP fin 41 (T.drop t2)) ∧ (¬nx6.num < 0 → nx6.kind = 2 → endP fin { k with limit := nx6.num } (T.drop (t2 + 1)) = res ∧ t2 < T.length) from by
        have h2 := K3'.out
        unfold limRes at h2
        rw [hL.out] at h2
        rcases hNC.out with ⟨h3, h4⟩ | ⟨h3, h5⟩
        · try rw [hnvnx6.out] at h4
          rw [h3] at h2 ⊢
          subst h4
          exact ⟨fun h => absurd h (by decide), fun _ _ => h2.symm, fun _ h => by cases h⟩
        · try rw [hnvnx6.out] at h3
          rw [h3] at h2 ⊢
          simp only at h2
          refine ⟨fun h => ?_, fun h h' => ?_, fun h h' => ?_⟩
          · rw [if_pos h] at h2; exact h2.symm
          · rw [if_neg h, if_neg h'] at h2; exact h2.symm
          · rw [if_neg h, if_pos h'] at h2; exact ⟨h2, h5⟩)
      go_upto_if 73 with fail
      cases hnb : decide (nx6.num < 0) with
      | true =>
        have hneg : nx6.num < 0 := by simpa using hnb
        have hres1 := hid (hR.out.1 hneg)
        replace hnb := hid hnb
        clear hneg
        have FN := RfailNew_c p n cap fin t2 0 43 T V4 (TS.out _ S.out.grow) (by omega)
        unfold rdV at FN
        replace FN := hid FN
        have b0 : V4.cell? ⟨RX, 0, none⟩ = some (.slice p n cap) := by rw [heap_cell S.out.rd]; rfl
        have b1 : V4.cell? ⟨RX, 1, none⟩ = some (.int .i64 (fin : Int)) := by rw [heap_cell S.out.rd]; rfl
        have b2 : V4.cell? ⟨RX, 2, none⟩ = some (.int .i64 (t2 : Int)) := by rw [heap_cell S.out.rd]; rfl
        have b3 : V4.cell? ⟨RX, 3, none⟩ = some (.int .i64 0) := by rw [heap_cell S.out.rd]; rfl
        have b4 : V4.cell? ⟨RX, 4, none⟩ = some (.int .i64 0) := by rw [heap_cell S.out.rd]; rfl
        have hzz := heap_lt S.out.rd
        go_wp2_with fail
        refine FN.out.mono ?_
        rintro e V5 ⟨rfl, gn⟩
        have S9 := hid (setRd S.out gn hwX hXQ hQX t2 (failE 43 (T.drop t2)) (failAt fin (T.drop t2)) (x := .int .i64 ((t2 : Nat) : Int)) (y := .int .i64 ((failE 43 (T.drop t2) : Nat) : Int)) (z := .int .i64 ((failAt fin (T.drop t2) : Nat) : Int)) rfl rfl rfl)
        have RN := gn.heap S.out.rd
        clear b0 b1 b2 b3 b4 hzz
        have b0 : V5.cell? ⟨RX, 0, none⟩ = some (.slice p n cap) := by rw [heap_cell RN]; rfl
        have b1 : V5.cell? ⟨RX, 1, none⟩ = some (.int .i64 (fin : Int)) := by rw [heap_cell RN]; rfl
        have b2 : V5.cell? ⟨RX, 2, none⟩ = some (.int .i64 (t2 : Int)) := by rw [heap_cell RN]; rfl
        have b3 : V5.cell? ⟨RX, 3, none⟩ = some (.int .i64 0) := by rw [heap_cell RN]; rfl
        have b4 : V5.cell? ⟨RX, 4, none⟩ = some (.int .i64 0) := by rw [heap_cell RN]; rfl
        have y0 : V5.frozen? ⟨RX, 0, none⟩ = false := heap_frozen RN 0 (by omega)
        have y1 : V5.frozen? ⟨RX, 1, none⟩ = false := heap_frozen RN 1 (by omega)
        have y2 : V5.frozen? ⟨RX, 2, none⟩ = false := heap_frozen RN 2 (by omega)
        have y3 : V5.frozen? ⟨RX, 3, none⟩ = false := heap_frozen RN 3 (by omega)
        have y4 : V5.frozen? ⟨RX, 4, none⟩ = false := heap_frozen RN 4 (by omega)
        have hzz := heap_lt RN
        clear RN
        go_upto_region 23 with fail
        clear hzz b0 b1 b2 b3 b4 y0 y1 y2 y3 y4 FN gn
        generalize (((((V5.setCell ⟨RX, 0, none⟩ (.slice p n cap)).setCell ⟨RX, 1, none⟩ (.int .i64 (fin : Int))).setCell ⟨RX, 2, none⟩ (.int .i64 ((t2 : Nat) : Int))).setCell ⟨RX, 3, none⟩ (.int .i64 ((failE 43 (T.drop t2) : Nat) : Int))).setCell ⟨RX, 4, none⟩ (.int .i64 ((failAt fin (T.drop t2) : Nat) : Int))) = V6 at *
        replace S := S9
        clear S9
        obtain ⟨ef, hef⟩ : ∃ x : Nat, failE 43 (T.drop t2) = x := ⟨_, rfl⟩
        obtain ⟨qf, hqf⟩ : ∃ x : Nat, failAt fin (T.drop t2) = x := ⟨_, rfl⟩
        have hneef : ef ≠ 0 ∧ ef ≤ 100 := by rw [← hef]; exact failE_ne 43 _ (by omega) (by omega)
        rw [hef, hqf] at S
        have NX := Rnext_c p n cap fin t2 ef qf T V6 (TS.out _ S.out.grow) (by omega) (by omega)
        unfold rdV at NX
        replace NX := hid NX
        have b0 : V6.cell? ⟨RX, 0, none⟩ = some (.slice p n cap) := by rw [heap_cell S.out.rd]; rfl
        have b1 : V6.cell? ⟨RX, 1, none⟩ = some (.int .i64 (fin : Int)) := by rw [heap_cell S.out.rd]; rfl
        have b2 : V6.cell? ⟨RX, 2, none⟩ = some (.int .i64 (t2 : Int)) := by rw [heap_cell S.out.rd]; rfl
        have b3 : V6.cell? ⟨RX, 3, none⟩ = some (.int .i64 (ef : Int)) := by rw [heap_cell S.out.rd]; rfl
        have b4 : V6.cell? ⟨RX, 4, none⟩ = some (.int .i64 (qf : Int)) := by rw [heap_cell S.out.rd]; rfl
        have hzz := heap_lt S.out.rd
        go_wp2_with fail
        refine NX.out.mono ?_
        rintro e V7 ⟨rfl, gn⟩
        unfold tokV
        replace S := hid (S.out.up gn)
        clear gn NX hzz b0 b1 b2 b3 b4
        generalize hnvnx7 : nextK T t2 ef = nx7 at *
        replace hnvnx7 := hid hnvnx7
        obtain rfl : nx7 = ⟨0, [], 0, 0⟩ := by
          have h2 := hnvnx7.out
          rw [nextK_bad T t2 hneef.1] at h2
          exact h2.symm
        have FN := RfailOld_c p n cap fin t2 ef qf 41 V7 (by omega)
        unfold rdV at FN
        replace FN := hid FN
        have b0 : V7.cell? ⟨RX, 0, none⟩ = some (.slice p n cap) := by rw [heap_cell S.out.rd]; rfl
        have b1 : V7.cell? ⟨RX, 1, none⟩ = some (.int .i64 (fin : Int)) := by rw [heap_cell S.out.rd]; rfl
        have b2 : V7.cell? ⟨RX, 2, none⟩ = some (.int .i64 (t2 : Int)) := by rw [heap_cell S.out.rd]; rfl
        have b3 : V7.cell? ⟨RX, 3, none⟩ = some (.int .i64 (ef : Int)) := by rw [heap_cell S.out.rd]; rfl
        have b4 : V7.cell? ⟨RX, 4, none⟩ = some (.int .i64 (qf : Int)) := by rw [heap_cell S.out.rd]; rfl
        have hzz := heap_lt S.out.rd
        go_wp2_with fail
        refine FN.out.mono ?_
        rintro e V8 ⟨rfl, gn⟩
        have S9 := hid (setRd S.out gn hwX hXQ hQX t2 ef qf (x := .int .i64 ((t2 : Nat) : Int)) (y := .int .i64 (ef : Int)) (z := .int .i64 (qf : Int)) rfl rfl rfl)
        have RN := gn.heap S.out.rd
        clear b0 b1 b2 b3 b4 hzz
        have b0 : V8.cell? ⟨RX, 0, none⟩ = some (.slice p n cap) := by rw [heap_cell RN]; rfl
        have b1 : V8.cell? ⟨RX, 1, none⟩ = some (.int .i64 (fin : Int)) := by rw [heap_cell RN]; rfl
        have b2 : V8.cell? ⟨RX, 2, none⟩ = some (.int .i64 (t2 : Int)) := by rw [heap_cell RN]; rfl
        have b3 : V8.cell? ⟨RX, 3, none⟩ = some (.int .i64 (ef : Int)) := by rw [heap_cell RN]; rfl
        have b4 : V8.cell? ⟨RX, 4, none⟩ = some (.int .i64 (qf : Int)) := by rw [heap_cell RN]; rfl
        have y0 : V8.frozen? ⟨RX, 0, none⟩ = false := heap_frozen RN 0 (by omega)
        have y1 : V8.frozen? ⟨RX, 1, none⟩ = false := heap_frozen RN 1 (by omega)
        have y2 : V8.frozen? ⟨RX, 2, none⟩ = false := heap_frozen RN 2 (by omega)
        have y3 : V8.frozen? ⟨RX, 3, none⟩ = false := heap_frozen RN 3 (by omega)
        have y4 : V8.frozen? ⟨RX, 4, none⟩ = false := heap_frozen RN 4 (by omega)
        have hzz := heap_lt RN
        clear RN
        go_upto_region 25 with fail
        clear hzz b0 b1 b2 b3 b4 y0 y1 y2 y3 y4 FN gn
        generalize (((((V8.setCell ⟨RX, 0, none⟩ (.slice p n cap)).setCell ⟨RX, 1, none⟩ (.int .i64 (fin : Int))).setCell ⟨RX, 2, none⟩ (.int .i64 ((t2 : Nat) : Int))).setCell ⟨RX, 3, none⟩ (.int .i64 (ef : Int))).setCell ⟨RX, 4, none⟩ (.int .i64 (qf : Int))) = V9 at *
        replace S := S9
        clear S9
        have NX := Rnext_c p n cap fin t2 ef qf T V9 (TS.out _ S.out.grow) (by omega) (by omega)
        unfold rdV at NX
        replace NX := hid NX
        have b0 : V9.cell? ⟨RX, 0, none⟩ = some (.slice p n cap) := by rw [heap_cell S.out.rd]; rfl
        have b1 : V9.cell? ⟨RX, 1, none⟩ = some (.int .i64 (fin : Int)) := by rw [heap_cell S.out.rd]; rfl
        have b2 : V9.cell? ⟨RX, 2, none⟩ = some (.int .i64 (t2 : Int)) := by rw [heap_cell S.out.rd]; rfl
        have b3 : V9.cell? ⟨RX, 3, none⟩ = some (.int .i64 (ef : Int)) := by rw [heap_cell S.out.rd]; rfl
        have b4 : V9.cell? ⟨RX, 4, none⟩ = some (.int .i64 (qf : Int)) := by rw [heap_cell S.out.rd]; rfl
        have hzz := heap_lt S.out.rd
        go_wp2_with fail
        refine NX.out.mono ?_
        rintro e V10 ⟨rfl, gn⟩
        unfold tokV
        replace S := hid (S.out.up gn)
        clear gn NX hzz b0 b1 b2 b3 b4
        generalize hnvnx8 : nextK T t2 ef = nx8 at *
        replace hnvnx8 := hid hnvnx8
        obtain rfl : nx8 = ⟨0, [], 0, 0⟩ := by
          have h2 := hnvnx8.out
          rw [nextK_bad T t2 hneef.1] at h2
          exact h2.symm
        obtain ⟨c0, c1, c2, c3, c4, hcs, hin⟩ := S.out.shape
        subst hcs
        have f7 : V10.cell? ⟨QX, 7, none⟩ = some (.int .i64 k.limit) := by rw [heap_cell S.out.qu]; rfl
        have z7 : V10.frozen? ⟨QX, 7, none⟩ = false := heap_frozen S.out.qu 7 (by simp)
        have hzq := heap_lt S.out.qu
        have S2 := hid (setQ S.out hwQ hXQ hQX hin 7 (.int .i64 0) { k with limit := 0 } rfl _ rfl (heap_set S.out.qu 7 _))
        go_upto_region 26 with fail
        generalize V10.setCell ⟨QX, 7, none⟩ (.int .i64 0) = V11 at *
        have S := S2
        clear S2 f7 z7 hzq hin
        have ON := Ron_c p n cap fin t2 ef qf V11 (by omega)
        unfold rdV at ON
        replace ON := hid ON
        have b0 : V11.cell? ⟨RX, 0, none⟩ = some (.slice p n cap) := by rw [heap_cell S.out.rd]; rfl
        have b1 : V11.cell? ⟨RX, 1, none⟩ = some (.int .i64 (fin : Int)) := by rw [heap_cell S.out.rd]; rfl
        have b2 : V11.cell? ⟨RX, 2, none⟩ = some (.int .i64 (t2 : Int)) := by rw [heap_cell S.out.rd]; rfl
        have b3 : V11.cell? ⟨RX, 3, none⟩ = some (.int .i64 (ef : Int)) := by rw [heap_cell S.out.rd]; rfl
        have b4 : V11.cell? ⟨RX, 4, none⟩ = some (.int .i64 (qf : Int)) := by rw [heap_cell S.out.rd]; rfl
        have hzz := heap_lt S.out.rd
        go_wp2_with fail
        refine ON.out.mono ?_
        rintro e V12 ⟨rfl, gn⟩
        obtain ⟨t3, ht3⟩ : ∃ x : Nat, x = t2 + 1 := ⟨_, rfl⟩
        have S9 := hid (setRd S.out gn hwX hXQ hQX t3 ef qf (x := .int .i64 ((t2 : Int) + 1)) (y := .int .i64 (ef : Int)) (z := .int .i64 (qf : Int)) (by rw [ht3]; push_cast; rfl) rfl rfl)
        have lt3 : t3 ≤ 7002 := by omega
        replace ht3 := hid ht3
        have RN := gn.heap S.out.rd
        clear b0 b1 b2 b3 b4 hzz
        have b0 : V12.cell? ⟨RX, 0, none⟩ = some (.slice p n cap) := by rw [heap_cell RN]; rfl
        have b1 : V12.cell? ⟨RX, 1, none⟩ = some (.int .i64 (fin : Int)) := by rw [heap_cell RN]; rfl
        have b2 : V12.cell? ⟨RX, 2, none⟩ = some (.int .i64 (t2 : Int)) := by rw [heap_cell RN]; rfl
        have b3 : V12.cell? ⟨RX, 3, none⟩ = some (.int .i64 (ef : Int)) := by rw [heap_cell RN]; rfl
        have b4 : V12.cell? ⟨RX, 4, none⟩ = some (.int .i64 (qf : Int)) := by rw [heap_cell RN]; rfl
        have y0 : V12.frozen? ⟨RX, 0, none⟩ = false := heap_frozen RN 0 (by omega)
        have y1 : V12.frozen? ⟨RX, 1, none⟩ = false := heap_frozen RN 1 (by omega)
        have y2 : V12.frozen? ⟨RX, 2, none⟩ = false := heap_frozen RN 2 (by omega)
        have y3 : V12.frozen? ⟨RX, 3, none⟩ = false := heap_frozen RN 3 (by omega)
        have y4 : V12.frozen? ⟨RX, 4, none⟩ = false := heap_frozen RN 4 (by omega)
        have hzz := heap_lt RN
        clear RN
        go_wp2_with fail
        clear hzz b0 b1 b2 b3 b4 y0 y1 y2 y3 y4 ON gn
        generalize (((((V12.setCell ⟨RX, 0, none⟩ (.slice p n cap)).setCell ⟨RX, 1, none⟩ (.int .i64 (fin : Int))).setCell ⟨RX, 2, none⟩ (.int .i64 ((t2 : Int) + 1))).setCell ⟨RX, 3, none⟩ (.int .i64 (ef : Int))).setCell ⟨RX, 4, none⟩ (.int .i64 (qf : Int))) = V12x at *
        replace S := S9
        clear S9
        have K4 := hid (show (ef = 0 ∧ qf = 0 ∧ t3 ≤ T.length ∧ endP fin { k with limit := 0 } (T.drop t3) = res) ∨ (ef ≠ 0 ∧ res = .bad ef qf) from by
          right
          refine ⟨hneef.1, ?_⟩
          rw [hres1.out]
          unfold failP
          rw [hef, hqf])
        go_meet
        case rel => exact ⟨t3, ef, qf, _, _, S, by omega, hneef.2, K4⟩
      | false =>
        have hneg : ¬nx6.num < 0 := by simpa using hnb
        replace hnb := hid hnb
        have NX := Rnext_c p n cap fin t2 0 0 T V4 (TS.out _ S.out.grow) (by omega) (by omega)
        unfold rdV at NX
        replace NX := hid NX
        have b0 : V4.cell? ⟨RX, 0, none⟩ = some (.slice p n cap) := by rw [heap_cell S.out.rd]; rfl
        have b1 : V4.cell? ⟨RX, 1, none⟩ = some (.int .i64 (fin : Int)) := by rw [heap_cell S.out.rd]; rfl
        have b2 : V4.cell? ⟨RX, 2, none⟩ = some (.int .i64 (t2 : Int)) := by rw [heap_cell S.out.rd]; rfl
        have b3 : V4.cell? ⟨RX, 3, none⟩ = some (.int .i64 0) := by rw [heap_cell S.out.rd]; rfl
        have b4 : V4.cell? ⟨RX, 4, none⟩ = some (.int .i64 0) := by rw [heap_cell S.out.rd]; rfl
        have hzz := heap_lt S.out.rd
        go_wp2_with fail
        refine NX.out.mono ?_
        rintro e V5 ⟨rfl, gn⟩
        unfold tokV
        replace S := hid (S.out.up gn)
        clear gn NX hzz b0 b1 b2 b3 b4
        generalize hnvnx7 : nextK T t2 0 = nx7 at *
        replace hnvnx7 := hid hnvnx7
        obtain rfl : nx6 = nx7 := by first | exact hnvnx6.out.symm | exact hnvnx6.out.symm.trans hnvnx7.out
        go_upto_if 79 with fail
        cases hkb : ((nx6.kind : Int) != 2) with
        | true =>
          have hk2 : nx6.kind ≠ 2 := by
            intro e
            rw [e] at hkb
            cases hkb
          have hres1 := hid (hR.out.2.1 hneg hk2)
          replace hkb := hid hkb
          clear hk2 hneg
          have FN := RfailNew_c p n cap fin t2 0 41 T V5 (TS.out _ S.out.grow) (by omega)
          unfold rdV at FN
          replace FN := hid FN
          have b0 : V5.cell? ⟨RX, 0, none⟩ = some (.slice p n cap) := by rw [heap_cell S.out.rd]; rfl
          have b1 : V5.cell? ⟨RX, 1, none⟩ = some (.int .i64 (fin : Int)) := by rw [heap_cell S.out.rd]; rfl
          have b2 : V5.cell? ⟨RX, 2, none⟩ = some (.int .i64 (t2 : Int)) := by rw [heap_cell S.out.rd]; rfl
          have b3 : V5.cell? ⟨RX, 3, none⟩ = some (.int .i64 0) := by rw [heap_cell S.out.rd]; rfl
          have b4 : V5.cell? ⟨RX, 4, none⟩ = some (.int .i64 0) := by rw [heap_cell S.out.rd]; rfl
          have hzz := heap_lt S.out.rd
          go_wp2_with fail
          refine FN.out.mono ?_
          rintro e V6 ⟨rfl, gn⟩
          have S9 := hid (setRd S.out gn hwX hXQ hQX t2 (failE 41 (T.drop t2)) (failAt fin (T.drop t2)) (x := .int .i64 ((t2 : Nat) : Int)) (y := .int .i64 ((failE 41 (T.drop t2) : Nat) : Int)) (z := .int .i64 ((failAt fin (T.drop t2) : Nat) : Int)) rfl rfl rfl)
          have RN := gn.heap S.out.rd
          clear b0 b1 b2 b3 b4 hzz
          have b0 : V6.cell? ⟨RX, 0, none⟩ = some (.slice p n cap) := by rw [heap_cell RN]; rfl
          have b1 : V6.cell? ⟨RX, 1, none⟩ = some (.int .i64 (fin : Int)) := by rw [heap_cell RN]; rfl
          have b2 : V6.cell? ⟨RX, 2, none⟩ = some (.int .i64 (t2 : Int)) := by rw [heap_cell RN]; rfl
          have b3 : V6.cell? ⟨RX, 3, none⟩ = some (.int .i64 0) := by rw [heap_cell RN]; rfl
          have b4 : V6.cell? ⟨RX, 4, none⟩ = some (.int .i64 0) := by rw [heap_cell RN]; rfl
          have y0 : V6.frozen? ⟨RX, 0, none⟩ = false := heap_frozen RN 0 (by omega)
          have y1 : V6.frozen? ⟨RX, 1, none⟩ = false := heap_frozen RN 1 (by omega)
          have y2 : V6.frozen? ⟨RX, 2, none⟩ = false := heap_frozen RN 2 (by omega)
          have y3 : V6.frozen? ⟨RX, 3, none⟩ = false := heap_frozen RN 3 (by omega)
          have y4 : V6.frozen? ⟨RX, 4, none⟩ = false := heap_frozen RN 4 (by omega)
          have hzz := heap_lt RN
          clear RN
          go_upto_region 25 with fail
          clear hzz b0 b1 b2 b3 b4 y0 y1 y2 y3 y4 FN gn
          generalize (((((V6.setCell ⟨RX, 0, none⟩ (.slice p n cap)).setCell ⟨RX, 1, none⟩ (.int .i64 (fin : Int))).setCell ⟨RX, 2, none⟩ (.int .i64 ((t2 : Nat) : Int))).setCell ⟨RX, 3, none⟩ (.int .i64 ((failE 41 (T.drop t2) : Nat) : Int))).setCell ⟨RX, 4, none⟩ (.int .i64 ((failAt fin (T.drop t2) : Nat) : Int))) = V7 at *
          replace S := S9
          clear S9
          obtain ⟨ef, hef⟩ : ∃ x : Nat, failE 41 (T.drop t2) = x := ⟨_, rfl⟩
          obtain ⟨qf, hqf⟩ : ∃ x : Nat, failAt fin (T.drop t2) = x := ⟨_, rfl⟩
          have hneef : ef ≠ 0 ∧ ef ≤ 100 := by rw [← hef]; exact failE_ne 41 _ (by omega) (by omega)
          rw [hef, hqf] at S
          have NX := Rnext_c p n cap fin t2 ef qf T V7 (TS.out _ S.out.grow) (by omega) (by omega)
          unfold rdV at NX
          replace NX := hid NX
          have b0 : V7.cell? ⟨RX, 0, none⟩ = some (.slice p n cap) := by rw [heap_cell S.out.rd]; rfl
          have b1 : V7.cell? ⟨RX, 1, none⟩ = some (.int .i64 (fin : Int)) := by rw [heap_cell S.out.rd]; rfl
          have b2 : V7.cell? ⟨RX, 2, none⟩ = some (.int .i64 (t2 : Int)) := by rw [heap_cell S.out.rd]; rfl
          have b3 : V7.cell? ⟨RX, 3, none⟩ = some (.int .i64 (ef : Int)) := by rw [heap_cell S.out.rd]; rfl
          have b4 : V7.cell? ⟨RX, 4, none⟩ = some (.int .i64 (qf : Int)) := by rw [heap_cell S.out.rd]; rfl
          have hzz := heap_lt S.out.rd
          go_wp2_with fail
          refine NX.out.mono ?_
          rintro e V8 ⟨rfl, gn⟩
          unfold tokV
          replace S := hid (S.out.up gn)
          clear gn NX hzz b0 b1 b2 b3 b4
          generalize hnvnx8 : nextK T t2 ef = nx8 at *
          replace hnvnx8 := hid hnvnx8
          obtain rfl : nx8 = ⟨0, [], 0, 0⟩ := by
            have h2 := hnvnx8.out
            rw [nextK_bad T t2 hneef.1] at h2
            exact h2.symm
          obtain ⟨c0, c1, c2, c3, c4, hcs, hin⟩ := S.out.shape
          subst hcs
          have f7 : V8.cell? ⟨QX, 7, none⟩ = some (.int .i64 k.limit) := by rw [heap_cell S.out.qu]; rfl
          have z7 : V8.frozen? ⟨QX, 7, none⟩ = false := heap_frozen S.out.qu 7 (by simp)
          have hzq := heap_lt S.out.qu
          have S2 := hid (setQ S.out hwQ hXQ hQX hin 7 (.int .i64 0) { k with limit := 0 } rfl _ rfl (heap_set S.out.qu 7 _))
          go_upto_region 26 with fail
          generalize V8.setCell ⟨QX, 7, none⟩ (.int .i64 0) = V9 at *
          have S := S2
          clear S2 f7 z7 hzq hin
          have ON := Ron_c p n cap fin t2 ef qf V9 (by omega)
          unfold rdV at ON
          replace ON := hid ON
          have b0 : V9.cell? ⟨RX, 0, none⟩ = some (.slice p n cap) := by rw [heap_cell S.out.rd]; rfl
          have b1 : V9.cell? ⟨RX, 1, none⟩ = some (.int .i64 (fin : Int)) := by rw [heap_cell S.out.rd]; rfl
          have b2 : V9.cell? ⟨RX, 2, none⟩ = some (.int .i64 (t2 : Int)) := by rw [heap_cell S.out.rd]; rfl
          have b3 : V9.cell? ⟨RX, 3, none⟩ = some (.int .i64 (ef : Int)) := by rw [heap_cell S.out.rd]; rfl
          have b4 : V9.cell? ⟨RX, 4, none⟩ = some (.int .i64 (qf : Int)) := by rw [heap_cell S.out.rd]; rfl
          have hzz := heap_lt S.out.rd
          go_wp2_with fail
          refine ON.out.mono ?_
          rintro e V10 ⟨rfl, gn⟩
          obtain ⟨t3, ht3⟩ : ∃ x : Nat, x = t2 + 1 := ⟨_, rfl⟩
          have S9 := hid (setRd S.out gn hwX hXQ hQX t3 ef qf (x := .int .i64 ((t2 : Int) + 1)) (y := .int .i64 (ef : Int)) (z := .int .i64 (qf : Int)) (by rw [ht3]; push_cast; rfl) rfl rfl)
          have lt3 : t3 ≤ 7002 := by omega
          replace ht3 := hid ht3
          have RN := gn.heap S.out.rd
          clear b0 b1 b2 b3 b4 hzz
          have b0 : V10.cell? ⟨RX, 0, none⟩ = some (.slice p n cap) := by rw [heap_cell RN]; rfl
          have b1 : V10.cell? ⟨RX, 1, none⟩ = some (.int .i64 (fin : Int)) := by rw [heap_cell RN]; rfl
          have b2 : V10.cell? ⟨RX, 2, none⟩ = some (.int .i64 (t2 : Int)) := by rw [heap_cell RN]; rfl
          have b3 : V10.cell? ⟨RX, 3, none⟩ = some (.int .i64 (ef : Int)) := by rw [heap_cell RN]; rfl
          have b4 : V10.cell? ⟨RX, 4, none⟩ = some (.int .i64 (qf : Int)) := by rw [heap_cell RN]; rfl
          have y0 : V10.frozen? ⟨RX, 0, none⟩ = false := heap_frozen RN 0 (by omega)
          have y1 : V10.frozen? ⟨RX, 1, none⟩ = false := heap_frozen RN 1 (by omega)
          have y2 : V10.frozen? ⟨RX, 2, none⟩ = false := heap_frozen RN 2 (by omega)
          have y3 : V10.frozen? ⟨RX, 3, none⟩ = false := heap_frozen RN 3 (by omega)
          have y4 : V10.frozen? ⟨RX, 4, none⟩ = false := heap_frozen RN 4 (by omega)
          have hzz := heap_lt RN
          clear RN
          go_wp2_with fail
          clear hzz b0 b1 b2 b3 b4 y0 y1 y2 y3 y4 ON gn
          generalize (((((V10.setCell ⟨RX, 0, none⟩ (.slice p n cap)).setCell ⟨RX, 1, none⟩ (.int .i64 (fin : Int))).setCell ⟨RX, 2, none⟩ (.int .i64 ((t2 : Int) + 1))).setCell ⟨RX, 3, none⟩ (.int .i64 (ef : Int))).setCell ⟨RX, 4, none⟩ (.int .i64 (qf : Int))) = V10x at *
          replace S := S9
          clear S9
          have K4 := hid (show (ef = 0 ∧ qf = 0 ∧ t3 ≤ T.length ∧ endP fin { k with limit := 0 } (T.drop t3) = res) ∨ (ef ≠ 0 ∧ res = .bad ef qf) from by
            right
            refine ⟨hneef.1, ?_⟩
            rw [hres1.out]
            unfold failP
            rw [hef, hqf])
          go_meet
          case rel => exact ⟨t3, ef, qf, _, _, S, by omega, hneef.2, K4⟩
        | false =>
          have hk2 : nx6.kind = 2 := by
            have h : ((nx6.kind : Int) = 2) := by simpa using hkb
            omega
          have hres1 := hR.out.2.2 hneg hk2
          have hlt2 := hres1.2
          have hres1 := hid hres1.1
          replace hkb := hid hkb
          clear hk2 hneg
          have NX := Rnext_c p n cap fin t2 0 0 T V5 (TS.out _ S.out.grow) (by omega) (by omega)
          unfold rdV at NX
          replace NX := hid NX
          have b0 : V5.cell? ⟨RX, 0, none⟩ = some (.slice p n cap) := by rw [heap_cell S.out.rd]; rfl
          have b1 : V5.cell? ⟨RX, 1, none⟩ = some (.int .i64 (fin : Int)) := by rw [heap_cell S.out.rd]; rfl
          have b2 : V5.cell? ⟨RX, 2, none⟩ = some (.int .i64 (t2 : Int)) := by rw [heap_cell S.out.rd]; rfl
          have b3 : V5.cell? ⟨RX, 3, none⟩ = some (.int .i64 0) := by rw [heap_cell S.out.rd]; rfl
          have b4 : V5.cell? ⟨RX, 4, none⟩ = some (.int .i64 0) := by rw [heap_cell S.out.rd]; rfl
          have hzz := heap_lt S.out.rd
          go_wp2_with fail
          refine NX.out.mono ?_
          rintro e V6 ⟨rfl, gn⟩
          unfold tokV
          replace S := hid (S.out.up gn)
          clear gn NX hzz b0 b1 b2 b3 b4
          generalize hnvnx8 : nextK T t2 0 = nx8 at *
          replace hnvnx8 := hid hnvnx8
          obtain rfl : nx6 = nx8 := by first | exact hnvnx7.out.symm | exact hnvnx6.out.symm | exact hnvnx7.out.symm.trans hnvnx8.out
          obtain ⟨c0, c1, c2, c3, c4, hcs, hin⟩ := S.out.shape
          subst hcs
          have f7 : V6.cell? ⟨QX, 7, none⟩ = some (.int .i64 k.limit) := by rw [heap_cell S.out.qu]; rfl
          have z7 : V6.frozen? ⟨QX, 7, none⟩ = false := heap_frozen S.out.qu 7 (by simp)
          have hzq := heap_lt S.out.qu
          have S2 := hid (setQ S.out hwQ hXQ hQX hin 7 (.int .i64 nx6.num) { k with limit := nx6.num } rfl _ rfl (heap_set S.out.qu 7 _))
          go_upto_region 26 with fail
          generalize V6.setCell ⟨QX, 7, none⟩ (.int .i64 nx6.num) = V7 at *
          have S := S2
          clear S2 f7 z7 hzq hin
          have ON := Ron_c p n cap fin t2 0 0 V7 (by omega)
          unfold rdV at ON
          replace ON := hid ON
          have b0 : V7.cell? ⟨RX, 0, none⟩ = some (.slice p n cap) := by rw [heap_cell S.out.rd]; rfl
          have b1 : V7.cell? ⟨RX, 1, none⟩ = some (.int .i64 (fin : Int)) := by rw [heap_cell S.out.rd]; rfl
          have b2 : V7.cell? ⟨RX, 2, none⟩ = some (.int .i64 (t2 : Int)) := by rw [heap_cell S.out.rd]; rfl
          have b3 : V7.cell? ⟨RX, 3, none⟩ = some (.int .i64 0) := by rw [heap_cell S.out.rd]; rfl
          have b4 : V7.cell? ⟨RX, 4, none⟩ = some (.int .i64 0) := by rw [heap_cell S.out.rd]; rfl
          have hzz := heap_lt S.out.rd
          go_wp2_with fail
          refine ON.out.mono ?_
          rintro e V8 ⟨rfl, gn⟩
          obtain ⟨t3, ht3⟩ : ∃ x : Nat, x = t2 + 1 := ⟨_, rfl⟩
          have S9 := hid (setRd S.out gn hwX hXQ hQX t3 0 0 (x := .int .i64 ((t2 : Int) + 1)) (y := .int .i64 0) (z := .int .i64 0) (by rw [ht3]; push_cast; rfl) rfl rfl)
          have lt3 : t3 ≤ 7002 := by omega
          replace ht3 := hid ht3
          have RN := gn.heap S.out.rd
          clear b0 b1 b2 b3 b4 hzz
          have b0 : V8.cell? ⟨RX, 0, none⟩ = some (.slice p n cap) := by rw [heap_cell RN]; rfl
          have b1 : V8.cell? ⟨RX, 1, none⟩ = some (.int .i64 (fin : Int)) := by rw [heap_cell RN]; rfl
          have b2 : V8.cell? ⟨RX, 2, none⟩ = some (.int .i64 (t2 : Int)) := by rw [heap_cell RN]; rfl
          have b3 : V8.cell? ⟨RX, 3, none⟩ = some (.int .i64 0) := by rw [heap_cell RN]; rfl
          have b4 : V8.cell? ⟨RX, 4, none⟩ = some (.int .i64 0) := by rw [heap_cell RN]; rfl
          have y0 : V8.frozen? ⟨RX, 0, none⟩ = false := heap_frozen RN 0 (by omega)
          have y1 : V8.frozen? ⟨RX, 1, none⟩ = false := heap_frozen RN 1 (by omega)
          have y2 : V8.frozen? ⟨RX, 2, none⟩ = false := heap_frozen RN 2 (by omega)
          have y3 : V8.frozen? ⟨RX, 3, none⟩ = false := heap_frozen RN 3 (by omega)
          have y4 : V8.frozen? ⟨RX, 4, none⟩ = false := heap_frozen RN 4 (by omega)
          have hzz := heap_lt RN
          clear RN
          go_wp2_with fail
          clear hzz b0 b1 b2 b3 b4 y0 y1 y2 y3 y4 ON gn
          generalize (((((V8.setCell ⟨RX, 0, none⟩ (.slice p n cap)).setCell ⟨RX, 1, none⟩ (.int .i64 (fin : Int))).setCell ⟨RX, 2, none⟩ (.int .i64 ((t2 : Int) + 1))).setCell ⟨RX, 3, none⟩ (.int .i64 0)).setCell ⟨RX, 4, none⟩ (.int .i64 0)) = V9 at *
          replace S := S9
          clear S9
          have K4 := hid (show endP fin { k with limit := nx6.num } (T.drop t3) = res from by rw [ht3.out]; exact hres1.out)
          go_meet
          case rel => exact ⟨t3, 0, 0, _, _, S, by omega, by omega, hid (.inl ⟨rfl, rfl, by have := ht3.out; omega, K4.out⟩)⟩
  case rest =>
  obtain ⟨a, e, q, k, cs, S, la, le, K4⟩ := hcut
  clear K3
  have hfz : fin ≤ 4096 := hlen
  by_cases he0 : e = 0
  rotate_left
  · have hke : ((e : Int) == 0) = false := by rw [beq_eq_false_iff_ne]; omega
    have hke2 : ((e : Int) != 0) = true := by simpa using he0
    have hke3 : ¬(e : Int) = 0 := by omega
    have hPB := hid (show parseP s.data.toList = ⟨.zero, q, e⟩ from by
      rw [HP.out]
      rcases K4.out with ⟨h, -⟩ | ⟨-, h⟩
      · exact absurd h he0
      · rw [h])
    have b0 : wc.cell? ⟨RX, 0, none⟩ = some (.slice p n cap) := by rw [heap_cell S.out.rd]; rfl
    have b1 : wc.cell? ⟨RX, 1, none⟩ = some (.int .i64 (fin : Int)) := by rw [heap_cell S.out.rd]; rfl
    have b2 : wc.cell? ⟨RX, 2, none⟩ = some (.int .i64 (a : Int)) := by rw [heap_cell S.out.rd]; rfl
    have b3 : wc.cell? ⟨RX, 3, none⟩ = some (.int .i64 (e : Int)) := by rw [heap_cell S.out.rd]; rfl
    have b4 : wc.cell? ⟨RX, 4, none⟩ = some (.int .i64 (q : Int)) := by rw [heap_cell S.out.rd]; rfl
    have hzx := heap_lt S.out.rd
    go_upto_region 30 with fail
    clear b0 b1 b2 b3 b4 hzx
    have b0 : wc.cell? ⟨RX, 0, none⟩ = some (.slice p n cap) := by rw [heap_cell S.out.rd]; rfl
    have b1 : wc.cell? ⟨RX, 1, none⟩ = some (.int .i64 (fin : Int)) := by rw [heap_cell S.out.rd]; rfl
    have b2 : wc.cell? ⟨RX, 2, none⟩ = some (.int .i64 (a : Int)) := by rw [heap_cell S.out.rd]; rfl
    have b3 : wc.cell? ⟨RX, 3, none⟩ = some (.int .i64 (e : Int)) := by rw [heap_cell S.out.rd]; rfl
    have b4 : wc.cell? ⟨RX, 4, none⟩ = some (.int .i64 (q : Int)) := by rw [heap_cell S.out.rd]; rfl
    have r0 : wc.cell? ⟨RQ, 0, none⟩ = some (.int .i64 0) := by rw [heap_cell S.out.rq]; rfl
    have r1 : wc.cell? ⟨RQ, 1, none⟩ = some (.slice none 0 0) := by rw [heap_cell S.out.rq]; rfl
    have r2 : wc.cell? ⟨RQ, 2, none⟩ = some (.string ⟨#[]⟩) := by rw [heap_cell S.out.rq]; rfl
    have r3 : wc.cell? ⟨RQ, 3, none⟩ = some (.string ⟨#[]⟩) := by rw [heap_cell S.out.rq]; rfl
    have r4 : wc.cell? ⟨RQ, 4, none⟩ = some (.int .i64 0) := by rw [heap_cell S.out.rq]; rfl
    have r5 : wc.cell? ⟨RQ, 5, none⟩ = some (.string ⟨#[]⟩) := by rw [heap_cell S.out.rq]; rfl
    have r6 : wc.cell? ⟨RQ, 6, none⟩ = some (.bool false) := by rw [heap_cell S.out.rq]; rfl
    have r7 : wc.cell? ⟨RQ, 7, none⟩ = some (.int .i64 0) := by rw [heap_cell S.out.rq]; rfl
    have r8 : wc.cell? ⟨RQ, 8, none⟩ = some (.bool false) := by rw [heap_cell S.out.rq]; rfl
    have v0 : wc.frozen? ⟨RQ, 0, none⟩ = false := heap_frozen S.out.rq 0 (by omega)
    have v1 : wc.frozen? ⟨RQ, 1, none⟩ = false := heap_frozen S.out.rq 1 (by omega)
    have v2 : wc.frozen? ⟨RQ, 2, none⟩ = false := heap_frozen S.out.rq 2 (by omega)
    have v3 : wc.frozen? ⟨RQ, 3, none⟩ = false := heap_frozen S.out.rq 3 (by omega)
    have v4 : wc.frozen? ⟨RQ, 4, none⟩ = false := heap_frozen S.out.rq 4 (by omega)
    have v5 : wc.frozen? ⟨RQ, 5, none⟩ = false := heap_frozen S.out.rq 5 (by omega)
    have v6 : wc.frozen? ⟨RQ, 6, none⟩ = false := heap_frozen S.out.rq 6 (by omega)
    have v7 : wc.frozen? ⟨RQ, 7, none⟩ = false := heap_frozen S.out.rq 7 (by omega)
    have v8 : wc.frozen? ⟨RQ, 8, none⟩ = false := heap_frozen S.out.rq 8 (by omega)
    have hzx := heap_lt S.out.rd
    have hzr := heap_lt S.out.rq
    have E1 := hid (set9_heap S.out.rq (.int .i64 0) (.slice none 0 0) (.string ⟨#[]⟩) (.string ⟨#[]⟩) (.int .i64 0) (.string ⟨#[]⟩) (.bool false) (.int .i64 0) (.bool false))
    have E2 := hid (set9_grow (GW.out.trans S.out.grow) (Nat.le_of_eq hRQ.out) (.int .i64 0) (.slice none 0 0) (.string ⟨#[]⟩) (.string ⟨#[]⟩) (.int .i64 0) (.string ⟨#[]⟩) (.bool false) (.int .i64 0) (.bool false))
    go_region
    go_wp2_with fail
    (try simp only [Exit.inBlock, Exit.then])
    have E3 := E1.out
    have E4 := E2.out
    rw [hPB.out]
    exact bodyPost_ret (results_rq (fn := Tryd.f11) (p := 2) rfl _ _ RQ _ _ _ _ rfl ((Grow.drew _).heap E3) Tryd.underlying26 rfl (by kernel_rfl) rfl rfl) rfl ⟨_, rfl, QueryR.In.zero _ _, Grow.drewR E4⟩
  subst he0
  obtain ⟨rfl, ha', hK⟩ : q = 0 ∧ a ≤ T.length ∧ endP fin k (T.drop a) = res := by
    rcases K4.out with ⟨-, h⟩ | ⟨h, -⟩
    · exact h
    · exact absurd rfl h
  clear K4
  by_cases hlt : a < T.length
  · have hlt2 : (a : Int) < (n : Int) := by have := hnT.out; omega
    have hbad := hid (show res = failP fin 41 (T.drop a) from by
      rw [← hK, List.drop_eq_getElem_cons hlt]
      rfl)
    clear hK
    have b0 : wc.cell? ⟨RX, 0, none⟩ = some (.slice p n cap) := by rw [heap_cell S.out.rd]; rfl
    have b1 : wc.cell? ⟨RX, 1, none⟩ = some (.int .i64 (fin : Int)) := by rw [heap_cell S.out.rd]; rfl
    have b2 : wc.cell? ⟨RX, 2, none⟩ = some (.int .i64 (a : Int)) := by rw [heap_cell S.out.rd]; rfl
    have b3 : wc.cell? ⟨RX, 3, none⟩ = some (.int .i64 0) := by rw [heap_cell S.out.rd]; rfl
    have b4 : wc.cell? ⟨RX, 4, none⟩ = some (.int .i64 0) := by rw [heap_cell S.out.rd]; rfl
    have hzx := heap_lt S.out.rd
    go_upto_region 28 with fail
    clear b0 b1 b2 b3 b4 hzx
    have FN := RfailNew_c p n cap fin a 0 41 T wc (TS.out _ S.out.grow) (by omega)
    unfold rdV at FN
    replace FN := hid FN
    have b0 : wc.cell? ⟨RX, 0, none⟩ = some (.slice p n cap) := by rw [heap_cell S.out.rd]; rfl
    have b1 : wc.cell? ⟨RX, 1, none⟩ = some (.int .i64 (fin : Int)) := by rw [heap_cell S.out.rd]; rfl
    have b2 : wc.cell? ⟨RX, 2, none⟩ = some (.int .i64 (a : Int)) := by rw [heap_cell S.out.rd]; rfl
    have b3 : wc.cell? ⟨RX, 3, none⟩ = some (.int .i64 0) := by rw [heap_cell S.out.rd]; rfl
    have b4 : wc.cell? ⟨RX, 4, none⟩ = some (.int .i64 0) := by rw [heap_cell S.out.rd]; rfl
    have hzz := heap_lt S.out.rd
    go_wp2_with fail
    refine FN.out.mono ?_
    rintro e X1 ⟨rfl, gn⟩
    have S9 := hid (setRd S.out gn hwX hXQ hQX a (failE 41 (T.drop a)) (failAt fin (T.drop a)) (x := .int .i64 ((a : Nat) : Int)) (y := .int .i64 ((failE 41 (T.drop a) : Nat) : Int)) (z := .int .i64 ((failAt fin (T.drop a) : Nat) : Int)) rfl rfl rfl)
    have RN := gn.heap S.out.rd
    clear b0 b1 b2 b3 b4 hzz
    have b0 : X1.cell? ⟨RX, 0, none⟩ = some (.slice p n cap) := by rw [heap_cell RN]; rfl
    have b1 : X1.cell? ⟨RX, 1, none⟩ = some (.int .i64 (fin : Int)) := by rw [heap_cell RN]; rfl
    have b2 : X1.cell? ⟨RX, 2, none⟩ = some (.int .i64 (a : Int)) := by rw [heap_cell RN]; rfl
    have b3 : X1.cell? ⟨RX, 3, none⟩ = some (.int .i64 0) := by rw [heap_cell RN]; rfl
    have b4 : X1.cell? ⟨RX, 4, none⟩ = some (.int .i64 0) := by rw [heap_cell RN]; rfl
    have y0 : X1.frozen? ⟨RX, 0, none⟩ = false := heap_frozen RN 0 (by omega)
    have y1 : X1.frozen? ⟨RX, 1, none⟩ = false := heap_frozen RN 1 (by omega)
    have y2 : X1.frozen? ⟨RX, 2, none⟩ = false := heap_frozen RN 2 (by omega)
    have y3 : X1.frozen? ⟨RX, 3, none⟩ = false := heap_frozen RN 3 (by omega)
    have y4 : X1.frozen? ⟨RX, 4, none⟩ = false := heap_frozen RN 4 (by omega)
    have hzz := heap_lt RN
    clear RN
    go_upto_region 29 with fail
    clear hzz b0 b1 b2 b3 b4 y0 y1 y2 y3 y4 FN gn
    generalize (((((X1.setCell ⟨RX, 0, none⟩ (.slice p n cap)).setCell ⟨RX, 1, none⟩ (.int .i64 (fin : Int))).setCell ⟨RX, 2, none⟩ (.int .i64 ((a : Nat) : Int))).setCell ⟨RX, 3, none⟩ (.int .i64 ((failE 41 (T.drop a) : Nat) : Int))).setCell ⟨RX, 4, none⟩ (.int .i64 ((failAt fin (T.drop a) : Nat) : Int))) = X2 at *
    replace S := S9
    clear S9
    obtain ⟨ef, hef⟩ : ∃ x : Nat, failE 41 (T.drop a) = x := ⟨_, rfl⟩
    obtain ⟨qf, hqf⟩ : ∃ x : Nat, failAt fin (T.drop a) = x := ⟨_, rfl⟩
    have hneef : ef ≠ 0 ∧ ef ≤ 100 := by rw [← hef]; exact failE_ne 41 _ (by omega) (by omega)
    rw [hef, hqf] at S
    have hke2 : ((ef : Int) != 0) = true := by simpa using hneef.1
    have hPB := hid (show parseP s.data.toList = ⟨.zero, qf, ef⟩ from by
      rw [HP.out, hbad.out]
      unfold failP
      rw [hef, hqf])
    have b0 : X2.cell? ⟨RX, 0, none⟩ = some (.slice p n cap) := by rw [heap_cell S.out.rd]; rfl
    have b1 : X2.cell? ⟨RX, 1, none⟩ = some (.int .i64 (fin : Int)) := by rw [heap_cell S.out.rd]; rfl
    have b2 : X2.cell? ⟨RX, 2, none⟩ = some (.int .i64 (a : Int)) := by rw [heap_cell S.out.rd]; rfl
    have b3 : X2.cell? ⟨RX, 3, none⟩ = some (.int .i64 (ef : Int)) := by rw [heap_cell S.out.rd]; rfl
    have b4 : X2.cell? ⟨RX, 4, none⟩ = some (.int .i64 (qf : Int)) := by rw [heap_cell S.out.rd]; rfl
    have hzx := heap_lt S.out.rd
    go_upto_region 30 with fail
    clear b0 b1 b2 b3 b4 hzx
    have b0 : X2.cell? ⟨RX, 0, none⟩ = some (.slice p n cap) := by rw [heap_cell S.out.rd]; rfl
    have b1 : X2.cell? ⟨RX, 1, none⟩ = some (.int .i64 (fin : Int)) := by rw [heap_cell S.out.rd]; rfl
    have b2 : X2.cell? ⟨RX, 2, none⟩ = some (.int .i64 (a : Int)) := by rw [heap_cell S.out.rd]; rfl
    have b3 : X2.cell? ⟨RX, 3, none⟩ = some (.int .i64 (ef : Int)) := by rw [heap_cell S.out.rd]; rfl
    have b4 : X2.cell? ⟨RX, 4, none⟩ = some (.int .i64 (qf : Int)) := by rw [heap_cell S.out.rd]; rfl
    have r0 : X2.cell? ⟨RQ, 0, none⟩ = some (.int .i64 0) := by rw [heap_cell S.out.rq]; rfl
    have r1 : X2.cell? ⟨RQ, 1, none⟩ = some (.slice none 0 0) := by rw [heap_cell S.out.rq]; rfl
    have r2 : X2.cell? ⟨RQ, 2, none⟩ = some (.string ⟨#[]⟩) := by rw [heap_cell S.out.rq]; rfl
    have r3 : X2.cell? ⟨RQ, 3, none⟩ = some (.string ⟨#[]⟩) := by rw [heap_cell S.out.rq]; rfl
    have r4 : X2.cell? ⟨RQ, 4, none⟩ = some (.int .i64 0) := by rw [heap_cell S.out.rq]; rfl
    have r5 : X2.cell? ⟨RQ, 5, none⟩ = some (.string ⟨#[]⟩) := by rw [heap_cell S.out.rq]; rfl
    have r6 : X2.cell? ⟨RQ, 6, none⟩ = some (.bool false) := by rw [heap_cell S.out.rq]; rfl
    have r7 : X2.cell? ⟨RQ, 7, none⟩ = some (.int .i64 0) := by rw [heap_cell S.out.rq]; rfl
    have r8 : X2.cell? ⟨RQ, 8, none⟩ = some (.bool false) := by rw [heap_cell S.out.rq]; rfl
    have v0 : X2.frozen? ⟨RQ, 0, none⟩ = false := heap_frozen S.out.rq 0 (by omega)
    have v1 : X2.frozen? ⟨RQ, 1, none⟩ = false := heap_frozen S.out.rq 1 (by omega)
    have v2 : X2.frozen? ⟨RQ, 2, none⟩ = false := heap_frozen S.out.rq 2 (by omega)
    have v3 : X2.frozen? ⟨RQ, 3, none⟩ = false := heap_frozen S.out.rq 3 (by omega)
    have v4 : X2.frozen? ⟨RQ, 4, none⟩ = false := heap_frozen S.out.rq 4 (by omega)
    have v5 : X2.frozen? ⟨RQ, 5, none⟩ = false := heap_frozen S.out.rq 5 (by omega)
    have v6 : X2.frozen? ⟨RQ, 6, none⟩ = false := heap_frozen S.out.rq 6 (by omega)
    have v7 : X2.frozen? ⟨RQ, 7, none⟩ = false := heap_frozen S.out.rq 7 (by omega)
    have v8 : X2.frozen? ⟨RQ, 8, none⟩ = false := heap_frozen S.out.rq 8 (by omega)
    have hzx := heap_lt S.out.rd
    have hzr := heap_lt S.out.rq
    have E1 := hid (set9_heap S.out.rq (.int .i64 0) (.slice none 0 0) (.string ⟨#[]⟩) (.string ⟨#[]⟩) (.int .i64 0) (.string ⟨#[]⟩) (.bool false) (.int .i64 0) (.bool false))
    have E2 := hid (set9_grow (GW.out.trans S.out.grow) (Nat.le_of_eq hRQ.out) (.int .i64 0) (.slice none 0 0) (.string ⟨#[]⟩) (.string ⟨#[]⟩) (.int .i64 0) (.string ⟨#[]⟩) (.bool false) (.int .i64 0) (.bool false))
    go_region
    go_wp2_with fail
    (try simp only [Exit.inBlock, Exit.then])
    have E3 := E1.out
    have E4 := E2.out
    rw [hPB.out]
    exact bodyPost_ret (results_rq (fn := Tryd.f11) (p := 2) rfl _ _ RQ _ _ _ _ rfl ((Grow.drew _).heap E3) Tryd.underlying26 rfl (by kernel_rfl) rfl rfl) rfl ⟨_, rfl, QueryR.In.zero _ _, Grow.drewR E4⟩
  · have hlt2 : ¬(a : Int) < (n : Int) := by have := hnT.out; omega
    have hPB := hid (show parseP s.data.toList = ⟨k, fin, 0⟩ from by
      rw [HP.out, ← hK, List.drop_eq_nil_of_le (by omega)]
      rfl)
    clear hK
    obtain ⟨c0, c1, c2, c3, c4, hcs, hin⟩ := S.out.shape
    subst hcs
    obtain ⟨gk, gp, gn, gc, gf, gs, gx, hv⟩ := NodeR.In.value hin
    simp only [Value.agg.injEq, Array.mk.injEq, List.cons.injEq, and_true] at hv
    obtain ⟨rfl, rfl, rfl, rfl, rfl⟩ := hv
    have b0 : wc.cell? ⟨RX, 0, none⟩ = some (.slice p n cap) := by rw [heap_cell S.out.rd]; rfl
    have b1 : wc.cell? ⟨RX, 1, none⟩ = some (.int .i64 (fin : Int)) := by rw [heap_cell S.out.rd]; rfl
    have b2 : wc.cell? ⟨RX, 2, none⟩ = some (.int .i64 (a : Int)) := by rw [heap_cell S.out.rd]; rfl
    have b3 : wc.cell? ⟨RX, 3, none⟩ = some (.int .i64 0) := by rw [heap_cell S.out.rd]; rfl
    have b4 : wc.cell? ⟨RX, 4, none⟩ = some (.int .i64 0) := by rw [heap_cell S.out.rd]; rfl
    have r0 : wc.cell? ⟨RQ, 0, none⟩ = some (.int .i64 0) := by rw [heap_cell S.out.rq]; rfl
    have r1 : wc.cell? ⟨RQ, 1, none⟩ = some (.slice none 0 0) := by rw [heap_cell S.out.rq]; rfl
    have r2 : wc.cell? ⟨RQ, 2, none⟩ = some (.string ⟨#[]⟩) := by rw [heap_cell S.out.rq]; rfl
    have r3 : wc.cell? ⟨RQ, 3, none⟩ = some (.string ⟨#[]⟩) := by rw [heap_cell S.out.rq]; rfl
    have r4 : wc.cell? ⟨RQ, 4, none⟩ = some (.int .i64 0) := by rw [heap_cell S.out.rq]; rfl
    have r5 : wc.cell? ⟨RQ, 5, none⟩ = some (.string ⟨#[]⟩) := by rw [heap_cell S.out.rq]; rfl
    have r6 : wc.cell? ⟨RQ, 6, none⟩ = some (.bool false) := by rw [heap_cell S.out.rq]; rfl
    have r7 : wc.cell? ⟨RQ, 7, none⟩ = some (.int .i64 0) := by rw [heap_cell S.out.rq]; rfl
    have r8 : wc.cell? ⟨RQ, 8, none⟩ = some (.bool false) := by rw [heap_cell S.out.rq]; rfl
    have v0 : wc.frozen? ⟨RQ, 0, none⟩ = false := heap_frozen S.out.rq 0 (by omega)
    have v1 : wc.frozen? ⟨RQ, 1, none⟩ = false := heap_frozen S.out.rq 1 (by omega)
    have v2 : wc.frozen? ⟨RQ, 2, none⟩ = false := heap_frozen S.out.rq 2 (by omega)
    have v3 : wc.frozen? ⟨RQ, 3, none⟩ = false := heap_frozen S.out.rq 3 (by omega)
    have v4 : wc.frozen? ⟨RQ, 4, none⟩ = false := heap_frozen S.out.rq 4 (by omega)
    have v5 : wc.frozen? ⟨RQ, 5, none⟩ = false := heap_frozen S.out.rq 5 (by omega)
    have v6 : wc.frozen? ⟨RQ, 6, none⟩ = false := heap_frozen S.out.rq 6 (by omega)
    have v7 : wc.frozen? ⟨RQ, 7, none⟩ = false := heap_frozen S.out.rq 7 (by omega)
    have v8 : wc.frozen? ⟨RQ, 8, none⟩ = false := heap_frozen S.out.rq 8 (by omega)
    have j0 : wc.cell? ⟨QX, 0, none⟩ = some (.int .i64 gk) := by rw [heap_cell S.out.qu]; rfl
    have j1 : wc.cell? ⟨QX, 1, none⟩ = some (.slice gp gn gc) := by rw [heap_cell S.out.qu]; rfl
    have j2 : wc.cell? ⟨QX, 2, none⟩ = some (.string gf) := by rw [heap_cell S.out.qu]; rfl
    have j3 : wc.cell? ⟨QX, 3, none⟩ = some (.string gs) := by rw [heap_cell S.out.qu]; rfl
    have j4 : wc.cell? ⟨QX, 4, none⟩ = some (.int .i64 gx) := by rw [heap_cell S.out.qu]; rfl
    have j5 : wc.cell? ⟨QX, 5, none⟩ = some (.string k.order) := by rw [heap_cell S.out.qu]; rfl
    have j6 : wc.cell? ⟨QX, 6, none⟩ = some (.bool k.down) := by rw [heap_cell S.out.qu]; rfl
    have j7 : wc.cell? ⟨QX, 7, none⟩ = some (.int .i64 k.limit) := by rw [heap_cell S.out.qu]; rfl
    have j8 : wc.cell? ⟨QX, 8, none⟩ = some (.bool k.count) := by rw [heap_cell S.out.qu]; rfl
    have hzx := heap_lt S.out.rd
    have hzr := heap_lt S.out.rq
    have hzq := heap_lt S.out.qu
    have E1 := hid (set9_heap S.out.rq (.int .i64 gk) (.slice gp gn gc) (.string gf) (.string gs) (.int .i64 gx) (.string k.order) (.bool k.down) (.int .i64 k.limit) (.bool k.count))
    have E2 := hid (set9_grow (GW.out.trans S.out.grow) (Nat.le_of_eq hRQ.out) (.int .i64 gk) (.slice gp gn gc) (.string gf) (.string gs) (.int .i64 gx) (.string k.order) (.bool k.down) (.int .i64 k.limit) (.bool k.count))
    have Y := hid (set9_by wc RQ (.int .i64 gk) (.slice gp gn gc) (.string gf) (.string gs) (.int .i64 gx) (.string k.order) (.bool k.down) (.int .i64 k.limit) (.bool k.count))
    replace hin := hid hin
    go_wp2_with fail
    (try simp only [Exit.inBlock, Exit.then])
    have E3 := E1.out
    have E4 := E2.out
    have hN := NodeR.In.weaken (S' := fun b => w.heap.size ≤ b) (fun b _ hb => by have h : QX < b := hb; have := hRQ.out; show w.heap.size ≤ b; omega) (NodeR.In.grown (row := some RQ) (fun b _ hb => by have h : QX < b := hb; simp; omega) Y.out hin.out)
    rw [hPB.out]
    exact bodyPost_ret (results_rq (fn := Tryd.f11) (p := 2) rfl _ _ RQ _ _ _ _ rfl E3 Tryd.underlying26 rfl (by kernel_rfl) rfl rfl) rfl ⟨_, rfl, ⟨_, _, _, _, _, rfl, hN⟩, E4⟩
set_option maxRecDepth 100000 in
set_option maxHeartbeats 16000000 in
theorem RParseBad (s : ByteArray) (w : World) (hs : s.size ≤ 140737488351232) (he : ¬(scan s.data.toList).err = 0) : Calls Tryd.prog 11 #[.string s] w (ParsePost (parseP s.data.toList) w) := by
  have HSC := hid (RScan_any s (w.alloc QueryZ) hs)
  have HP := hid (parseP_bad he)
  have e1 : (((scan s.data.toList).err : Int) != 0) = true := by simpa using he
  generalize scan s.data.toList = sc at *
  clear he
  have G0 := hid (Grow.alloc w QueryZ)
  have Q0 := hid (heap_new w QueryZ)
  have hwsz := hid (Nat.le_refl w.heap.size)
  go_enter Tryd.func11, Tryd.ntmps11
  go_wp2_with fail
  refine HSC.out.mono ?_
  rintro e w1 ⟨v, rfl, hT, g1⟩
  clear hT
  have G1 := hid (G0.out.trans g1)
  have Q1 := hid (g1.heap Q0.out)
  clear g1 Q0 G0 HSC
  generalize hRQ : w.heap.size = RQ at *
  replace hRQ := hid hRQ
  have r0 : w1.cell? ⟨RQ, 0, none⟩ = some (.int .i64 0) := by rw [heap_cell Q1.out]; rfl
  have r1 : w1.cell? ⟨RQ, 1, none⟩ = some (.slice none 0 0) := by rw [heap_cell Q1.out]; rfl
  have r2 : w1.cell? ⟨RQ, 2, none⟩ = some (.string ⟨#[]⟩) := by rw [heap_cell Q1.out]; rfl
  have r3 : w1.cell? ⟨RQ, 3, none⟩ = some (.string ⟨#[]⟩) := by rw [heap_cell Q1.out]; rfl
  have r4 : w1.cell? ⟨RQ, 4, none⟩ = some (.int .i64 0) := by rw [heap_cell Q1.out]; rfl
  have r5 : w1.cell? ⟨RQ, 5, none⟩ = some (.string ⟨#[]⟩) := by rw [heap_cell Q1.out]; rfl
  have r6 : w1.cell? ⟨RQ, 6, none⟩ = some (.bool false) := by rw [heap_cell Q1.out]; rfl
  have r7 : w1.cell? ⟨RQ, 7, none⟩ = some (.int .i64 0) := by rw [heap_cell Q1.out]; rfl
  have r8 : w1.cell? ⟨RQ, 8, none⟩ = some (.bool false) := by rw [heap_cell Q1.out]; rfl
  have v0 : w1.frozen? ⟨RQ, 0, none⟩ = false := heap_frozen Q1.out 0 (by omega)
  have v1 : w1.frozen? ⟨RQ, 1, none⟩ = false := heap_frozen Q1.out 1 (by omega)
  have v2 : w1.frozen? ⟨RQ, 2, none⟩ = false := heap_frozen Q1.out 2 (by omega)
  have v3 : w1.frozen? ⟨RQ, 3, none⟩ = false := heap_frozen Q1.out 3 (by omega)
  have v4 : w1.frozen? ⟨RQ, 4, none⟩ = false := heap_frozen Q1.out 4 (by omega)
  have v5 : w1.frozen? ⟨RQ, 5, none⟩ = false := heap_frozen Q1.out 5 (by omega)
  have v6 : w1.frozen? ⟨RQ, 6, none⟩ = false := heap_frozen Q1.out 6 (by omega)
  have v7 : w1.frozen? ⟨RQ, 7, none⟩ = false := heap_frozen Q1.out 7 (by omega)
  have v8 : w1.frozen? ⟨RQ, 8, none⟩ = false := heap_frozen Q1.out 8 (by omega)
  have hzr := heap_lt Q1.out
  have E1 := hid (set9_heap Q1.out (.int .i64 0) (.slice none 0 0) (.string ⟨#[]⟩) (.string ⟨#[]⟩) (.int .i64 0) (.string ⟨#[]⟩) (.bool false) (.int .i64 0) (.bool false))
  have E2 := hid (set9_grow G1.out (Nat.le_of_eq hRQ.out) (.int .i64 0) (.slice none 0 0) (.string ⟨#[]⟩) (.string ⟨#[]⟩) (.int .i64 0) (.string ⟨#[]⟩) (.bool false) (.int .i64 0) (.bool false))
  go_wp2_with fail
  (try simp only [Exit.inBlock, Exit.then])
  have E3 := E1.out
  have E4 := E2.out
  rw [HP.out]
  exact bodyPost_ret (results_rq (fn := Tryd.f11) (p := 2) rfl _ _ RQ _ _ _ _ rfl E3 Tryd.underlying26 rfl (by kernel_rfl) rfl rfl) rfl ⟨_, rfl, QueryR.In.zero _ _, E4⟩
theorem RParse_c (s : ByteArray) (w : World) (hs : s.size ≤ 140737488351232) : Calls Tryd.prog 11 #[.string s] w (ParsePost (parseP s.data.toList) w) := by
  by_cases he : (scan s.data.toList).err = 0
  · exact RParseGood s w hs he
  · exact RParseBad s w hs he
end Go.Proofs.YteilkcdbdpkbfaaDoor
