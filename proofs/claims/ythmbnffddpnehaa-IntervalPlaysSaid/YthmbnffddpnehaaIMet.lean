/- What the law's met gives. -/
import Derived.Test.YthmbnffddpnehaaIMeet
import Derived.Test.YthmbnffddpnehaaPush
namespace Go.Proofs.Ythmbnffddpnehaa
open Go.RowKit
set_option linter.unusedVariables false
set_option linter.unusedSimpArgs false
theorem run_equalIn_func_nil {P : Program} (w : World) (d : Nat) (t : TypeId) (ps rs : Array TypeId) (vr : Bool) (f : Fn) (bt bs) (h : P.underlying t = some (.func ps rs vr)) :
    (Op.equalIn (d + 1) t (.func f bt bs) .nilFunc).run P w = .ok false w := by
  simp [Op.equalIn, run_underlying h]
/-- A function held against nil. -/
theorem run_eql_func_nil {P : Program} (w : World) (t : TypeId) (ps rs : Array TypeId) (vr : Bool) (f : Fn) (bt bs) (h : P.underlying t = some (.func ps rs vr)) :
    (binOp .eql t (.func f bt bs) .nilFunc).run P w = .ok (.bool false) w := by
  simp only [binOp]
  simp [Op.equal, Op.maxDepth, run_equalIn_func_nil w 9999 t ps rs vr f bt bs h]
theorem heap_newAt (w : World) (o : Obj) {n : Nat} (h : n = w.heap.size) : (w.alloc o).heap[n]? = some o := by subst h; exact heap_new w o
theorem own_form {w : World} {base : Nat} {e : TypeId} {size n : Nat} {v : Value} {xs : List Value} (h : w.ownsRow base e size v n xs) : ∃ A c, v = .slice A n c := by
  rcases h.2 with ⟨h1, h0⟩ | ⟨g, cap, cur, h1, _⟩
  · exact ⟨none, 0, by rw [h1, h0]⟩
  · exact ⟨_, cap, h1⟩
theorem own_sub {w : World} {base base' : Nat} {e : TypeId} {size n : Nat} {v : Value} {xs : List Value} (h : w.ownsRow base e size v n xs) (hb : base' ≤ base) : w.ownsRow base' e size v n xs := by
  refine ⟨h.1, ?_⟩
  rcases h.2 with h1 | ⟨g, cap, cur, h1, h2, h3⟩
  · exact .inl h1
  · exact .inr ⟨g, cap, cur, h1, Nat.le_trans hb h2, h3⟩
/-- What was below is as it was, but for one block. -/
structure Side (lb B : Nat) (w w' : World) : Prop where
  os : w'.os = w.os
  tape : w'.tape = w.tape
  output : w'.output = w.output
  size : w.heap.size ≤ w'.heap.size
  block : ∀ k, k < B → k ≠ lb → w'.heap[k]? = w.heap[k]?
theorem Side.refl (lb B : Nat) (w : World) : Side lb B w w := ⟨rfl, rfl, rfl, Nat.le_refl _, fun _ _ _ => rfl⟩
theorem Side.trans {lb B : Nat} {a b c : World} (h : Side lb B a b) (k : Side lb B b c) : Side lb B a c :=
  ⟨k.os.trans h.os, k.tape.trans h.tape, k.output.trans h.output, Nat.le_trans h.size k.size, fun j hj hl => (k.block j hj hl).trans (h.block j hj hl)⟩
theorem Side.of_below {lb B : Nat} {a b : World} (h : Below B a b) : Side lb B a b := ⟨h.os, h.tape, h.output, h.size, fun k hk _ => h.block k hk⟩
theorem Side.below {lb B C : Nat} {a b : World} (h : Side lb B a b) (hC : C ≤ B) (hl : C ≤ lb) : Below C a b := ⟨h.os, h.tape, h.output, h.size, fun k hk => h.block k (by omega) (by omega)⟩
theorem Side.setCell {lb B : Nat} {a b : World} (h : Side lb B a b) (o : Nat) (v : Value) : Side lb B a (b.setCell ⟨lb, o, none⟩ v) where
  os := by rw [← h.os]; rfl
  tape := by rw [← h.tape]; rfl
  output := by rw [← h.output]; rfl
  size := by simpa using h.size
  block := fun k hk hl => by rw [Below.heap_setCell _ _ _ _ hl, h.block k hk hl]
theorem Side.of_grownBy {lb B : Nat} {row : Option Nat} {a b : World} (h : a.grownBy b row) (hB : B ≤ a.heap.size) (hr : ∀ k, row = some k → B ≤ k) : Side lb B a b :=
  ⟨h.os, h.tape, h.output, h.size, fun k hk _ => h.block k (by omega) (fun e => by have := hr k e.symm; omega)⟩
theorem Side.drewN {lb B : Nat} {a b : World} (h : Side lb B a b) (n : Nat) : Side lb B a (b.drewN n) := ⟨h.os, h.tape, h.output, h.size, h.block⟩
theorem own_drewN {w : World} {base : Nat} {e : TypeId} {size n : Nat} {v : Value} {xs : List Value} (h : w.ownsRow base e size v n xs) (k : Nat) : (w.drewN k).ownsRow base e size v n xs := h
def rRow (x : It) : List Value := [.int .i64 x.id, .int .i64 x.f, .int .i64 x.t, .string x.v]
def rCells (L : List It) : List Value := L.flatMap rRow
theorem rCells_append (a b : List It) : rCells (a ++ b) = rCells a ++ rCells b := by simp [rCells]
theorem rCells_length : ∀ l : List It, (rCells l).length = l.length * 4
  | [] => rfl
  | o :: l => by
    have := rCells_length l
    simp only [rCells, List.flatMap_cons, List.length_append, List.length_cons] at this ⊢
    rw [this]
    simp [rRow]
    omega
theorem rCells_at : ∀ (l : List It) (i r : Nat) (hi : i < l.length), r < 4 → (rCells l)[i * 4 + r]? = (rRow l[i])[r]?
  | [], i, r, hi, _ => by simp at hi
  | o :: l, 0, r, hi, hr => by
    simp only [rCells, List.flatMap_cons, Nat.zero_mul, Nat.zero_add, List.getElem_cons_zero]
    rw [List.getElem?_append_left (by simp [rRow]; omega)]
  | o :: l, i + 1, r, hi, hr => by
    have ih := rCells_at l i r (by simpa using hi) hr
    simp only [rCells, List.flatMap_cons, List.getElem_cons_succ] at ih ⊢
    rw [List.getElem?_append_right (by simp [rRow]; omega)]
    have : (i + 1) * 4 + r - (rRow o).length = i * 4 + r := by simp [rRow]; omega
    rw [this, ih]
theorem infoRItem : Info Try.prog 50 (.agg #[.int .i64 0, .int .i64 0, .int .i64 0, .string ByteArray.empty]) 4 40 := by unfold Info; kernel_rfl
/-- A place to stop at. -/
theorem wpList_stop {P : Program} {ops : Array Oper} {Q : Exit → Act → World → Prop} {l : List Oper} {a : Act} {w : World} (h : id (wpList P ops Q l a w)) : wpList P ops Q l a w := h
set_option maxRecDepth 100000 in
set_option maxHeartbeats 2000000 in
theorem met1_c (x : It) (lb mb base : Nat) (lv : Value) (acc : List It) (most : Int) (w : World) (hl : w.heap[lb]? = some (.cells #[lv] 24 (0, 0))) (hm : w.heap[mb]? = some (.cells #[.int .i64 most] 3 (0, 0)))
    (ho : w.ownsRow base 50 4 lv acc.length (rCells acc)) (hn : acc.length ≤ 1000000) (hlb : lb < base) (hmb : mb < base) (hne : mb ≠ lb) (hbs : base ≤ w.heap.size) :
    Calls Try.prog 35 #[.int .i64 x.id, .agg #[.int .i64 x.f, .int .i64 x.t, .string x.v], .pointer (some ⟨lb, 0, none⟩), .pointer (some ⟨mb, 0, none⟩)] w fun e w' => e = .returned (.bool (decide ((acc.length : Int) + 1 < most))) ∧
      (∃ lv', w'.heap[lb]? = some (.cells #[lv'] 24 (0, 0)) ∧ w'.ownsRow base 50 4 lv' (acc.length + 1) (rCells (acc ++ [x]))) ∧ Side lb base w w' := by
  obtain ⟨A, c, rfl⟩ := own_form ho
  have G0 := Grow.alloc w (.cells #[.int .i64 x.f, .int .i64 x.t, .string x.v] 46)
  have c0 : w.cell? ⟨lb, 0, none⟩ = some (.slice A acc.length c) := by rw [heap_cell hl]; rfl
  have hll := heap_lt hl
  have hml := heap_lt hm
  have HL := hid (G0.heap hl)
  have HM := hid (G0.heap hm)
  have HO := hid (show (w.alloc (.cells #[.int .i64 x.f, .int .i64 x.t, .string x.v] 46)).ownsRow base 50 4 (.slice A acc.length c) acc.length (rCells acc) from ho.alloc _)
  have HOB := hid (fun j hj => (ho.lt j hj).1)
  have HE := hid (rCells_append acc [x])
  have HS0 := hid (show Side lb base w (w.alloc (.cells #[.int .i64 x.f, .int .i64 x.t, .string x.v] 46)) from Side.of_below (Grow.below G0 hbs))
  clear hl hm ho G0
  obtain ⟨n, hN⟩ : ∃ n, n = acc.length := ⟨_, rfl⟩
  rw [← hN] at c0 hn HO HL HOB ⊢
  have HN := hid hN
  clear hN
  obtain ⟨xi, xf, xt, xv⟩ := x
  dsimp only at *
  have hszA : (w.alloc (.cells #[.int .i64 xf, .int .i64 xt, .string xv] 46)).heap.size = w.heap.size + 1 := by simp
  go_enter Try.func35, Try.ntmps35
  go_wp2_with (at_builtin; refine wpList_stop ?_)
  show wpList _ _ _ _ _ _
  apply wpList_pushH (w.heap.size + 1) hszA
  case hg => rfl
  case hop => rfl
  case ht => exact Try.underlying24
  case hi => exact infoRItem
  case hs => rfl
  case hown => exact HO.out
  case hx => rfl
  case hzs => rfl
  case hsz => omega
  case hcs => rfl
  case h1 => simp [Value.oneCell']
  case h63 => unfold maxLen; omega
  case hbytes => omega
  case hbase => omega
  intro v' w1 ho1 hg1 hs1
  obtain ⟨A1, c1, rfl⟩ : ∃ A c, v' = .slice A (n + 1) c := own_form ho1
  have HS := hid (HS0.out.trans (Side.of_grownBy (lb := lb) (B := base) hg1 (by omega) HOB.out))
  have hl1 : w1.heap[lb]? = some (.cells #[.slice A n c] 24 (0, 0)) := by
    rw [hg1.block lb (by omega) (fun e => by have := HOB.out lb e.symm; omega)]
    exact HL.out
  have hm1 := (hg1.block mb (by omega) (fun e => by have := HOB.out mb e.symm; omega)).trans HM.out
  have d0 : w1.cell? ⟨lb, 0, none⟩ = some (.slice A n c) := by rw [heap_cell hl1]; rfl
  have e0 : w1.frozen? ⟨lb, 0, none⟩ = false := heap_frozen hl1 0 (by omega)
  have k0 : w1.cell? ⟨mb, 0, none⟩ = some (.int .i64 most) := by rw [heap_cell hm1]; rfl
  have hll1 := heap_lt hl1
  have hml1 := heap_lt hm1
  have HL1 := hid hl1
  have HO1 := hid ho1
  clear hl1 hm1 ho1 hg1 c0
  go_wp2_with fail
  go_ret
  have hdec : (decide ((n : Int) + 1 < most)) = decide (((n + 1 : Nat) : Int) < most) := by congr 1
  refine ⟨by first | rfl | (rw [hdec]; rfl) | simp, ⟨.slice A1 (n + 1) c1, heap_set HL1.out 0 _, ?_⟩, HS.out.setCell 0 _⟩
  rw [HE.out]
  have ho := HO1.out
  refine ⟨ho.1, ?_⟩
  rcases ho.2 with h | ⟨gg, cc, cur, h, h2, hg, h4⟩
  · exact .inl h
  · exact .inr ⟨gg, cc, cur, h, h2, heap_keep hg _ _ (by show gg ≠ lb; omega), h4⟩
/-- The tree that an index's pointer leads to. -/
def Ptr (w : World) (q : Option Addr) (T : Tr) : Prop := (q = none ∧ T = .nil) ∨ (∃ p, q = some ⟨p, 0, none⟩ ∧ w.cell? ⟨p, 0, none⟩ = some T.ptr ∧ T.In w)
theorem Ptr.grow {w w' : World} {q : Option Addr} {T : Tr} (h : Ptr w q T) (g : Grow w w') : Ptr w' q T := by
  rcases h with h | ⟨p, h1, h2, h3⟩
  · exact .inl h
  · exact .inr ⟨p, h1, g.cell h2, h3.kept fun b hb => g.block b (h3.lt b hb)⟩
theorem IxAt.ptr {w : World} {B p : Nat} {L : List It} {nx : Int} {N : Nat} {T : Tr} {mb : Nat} (h : IxAt w B p L nx N T mb) : Ptr w (some ⟨p, 0, none⟩) T := .inr ⟨p, rfl, by rw [heap_cell h.box]; rfl, h.tree⟩
def metStep (most : Int) (L : List It) (x : It) : List It × Bool := (L ++ [x], decide ((L.length : Int) + 1 < most))
def metGo (most : Int) (L : List It) : Prop := (L.length : Int) < most
def MetJ (T : Tr) (w0 : World) (lb : Nat) (L : List It) (w : World) : Prop :=
  (∃ lv, w.heap[lb]? = some (.cells #[lv] 24 (0, 0)) ∧ w.ownsRow w0.heap.size 50 4 lv L.length (rCells L)) ∧ Side lb w0.heap.size w0 w
theorem feed_met (most : Int) (M : List It) : ∀ acc : List It, (acc.length : Int) < most → (feed (metStep most) acc M).1 = acc ++ M.take (most - acc.length).toNat := by
  induction M with
  | nil => intro acc h; simp [feed]
  | cons x r ih =>
    intro acc h
    simp only [feed, metStep]
    by_cases hc : (acc.length : Int) + 1 < most
    · rw [decide_eq_true hc]
      dsimp only
      have := ih (acc ++ [x]) (by simp; omega)
      rw [this]
      have e : (most - (acc.length : Int)).toNat = (most - ((acc ++ [x]).length : Int)).toNat + 1 := by simp; omega
      rw [e, List.take_succ_cons, List.append_assoc]
      rfl
    · rw [decide_eq_false hc]
      dsimp only
      have e : (most - (acc.length : Int)).toNat = 1 := by omega
      rw [e]
      simp
/-- What a span meets. -/
def metL (L : List It) (f t : Int) : List It := if f ≤ t then L.filter (Tr.meets f t) else []
theorem Tr.In.lbOff {w : World} {T : Tr} {lb : Nat} {lv : Value} (h : T.In w) (hl : w.heap[lb]? = some (.cells #[lv] 24 (0, 0))) : lb ∉ T.blocks := fun e => by
  obtain ⟨cs, hc⟩ := h.kind lb e
  rw [hl] at hc
  injection hc with hc
  injection hc with _ e2 _
  exact absurd e2 (by decide)
theorem met_yield (T : Tr) (w0 : World) (lb mb : Nat) (most : Int) (hm : most ≤ 1000000) (hT : T.In w0) (hlb : w0.heap[lb]? = some (.cells #[.slice none 0 0] 24 (0, 0))) (hmb : w0.heap[mb]? = some (.cells #[.int .i64 most] 3 (0, 0))) (hne : mb ≠ lb) :
    YieldM lb mb (metStep most) (metGo most) (MetJ T w0 lb) T where
  keep := fun L x hg hs => by
    simp only [metStep] at hs ⊢
    unfold metGo
    have := of_decide_eq_true hs
    simp
    omega
  tree := fun L w hJ => hT.kept fun b hb => hJ.2.block b (hT.lt b hb) (fun e => hT.lbOff hlb (e ▸ hb))
  drew := fun L w n hJ => by
    obtain ⟨⟨lv, h1, h2⟩, h3⟩ := hJ
    exact ⟨⟨lv, h1, h2⟩, h3.drewN n⟩
  call := fun L w hg hJ x hx => by
    obtain ⟨⟨lv, h1, h2⟩, h3⟩ := hJ
    have hm1 := (h3.block mb (heap_lt hmb) hne).trans hmb
    have hll := heap_lt hlb
    have hml := heap_lt hmb
    unfold metGo at hg
    refine (met1_c x lb mb w0.heap.size lv L most w h1 hm1 h2 (by omega) hll hml hne h3.size).mono ?_
    rintro e w' ⟨rfl, ⟨lv', g1, g2⟩, g3⟩
    refine ⟨rfl, ⟨lv', g1, ?_⟩, h3.trans g3⟩
    simp only [metStep, List.length_append, List.length_cons, List.length_nil]
    exact g2
set_option maxRecDepth 100000 in
set_option maxHeartbeats 4000000 in
theorem met_c (q : Option Addr) (T : Tr) (f t most : Int) (w : World) (hq : Ptr w q T) (hr : Rises T.items) (h1 : 1 ≤ most) (h2 : most ≤ 1000000) :
    Calls Try.prog 16 #[.pointer q, .int .i64 f, .int .i64 t, .int .i64 most] w fun e w' => ∃ lv, e = .returned lv ∧ w'.ownsRow w.heap.size 50 4 lv ((metL T.items f t).take most.toNat).length (rCells ((metL T.items f t).take most.toNat)) ∧ Grow w w' := by
  have HA := hid (show ∀ (w3 : World) (g : Grow w w3) xb fb tb lb mb, Boxes w3 xb fb tb q f t → w3.heap[lb]? = some (.cells #[.slice none 0 0] 24 (0, 0)) → w3.heap[mb]? = some (.cells #[.int .i64 most] 3 (0, 0)) → mb ≠ lb →
      Calls Try.prog 41 #[.func (.func 35) #[] #[.pointer (some ⟨lb, 0, none⟩), .pointer (some ⟨mb, 0, none⟩)], .pointer (some ⟨xb, 0, none⟩), .pointer (some ⟨fb, 0, none⟩), .pointer (some ⟨tb, 0, none⟩)] w3 fun e w' => (∃ u, e = .returned u) ∧ MetJ T w3 lb ((metL T.items f t).take most.toNat) w' by
    intro w3 g xb fb tb lb mb hb hlb hmb hne
    have hJ0 : MetJ T w3 lb [] w3 := ⟨⟨_, hlb, World.ownsRow_nil _ _ _ _⟩, Side.refl _ _ _⟩
    rcases hq with ⟨rfl, rfl⟩ | ⟨p, rfl, hp, hT⟩
    · have e : (metL Tr.nil.items f t).take most.toNat = [] := by simp [metL, Tr.items]
      rw [e]
      exact Meet1MNo_c lb mb (MetJ .nil w3 lb) none f t xb fb tb [] w3 hb hJ0 (.inl rfl)
    · have hT3 := hT.kept (w' := w3) fun b hb => g.block b (hT.lt b hb)
      by_cases hft : f ≤ t
      · have := Meet1M_c lb mb (metStep most) (metGo most) (MetJ T w3 lb) p f t xb fb tb T [] w3 hb (g.cell hp) (by unfold metGo; simp; omega) hJ0 (met_yield T w3 lb mb most h2 hT3 hlb hmb hne) hft
        rw [feed_met most _ [] (by simp; omega), Tr.walkT_eq f t T hr] at this
        unfold metL
        rw [if_pos hft]
        simpa using this
      · have e : (metL T.items f t).take most.toNat = [] := by simp [metL, hft]
        rw [e]
        exact Meet1MNo_c lb mb (MetJ T w3 lb) _ f t xb fb tb [] w3 hb hJ0 (.inr ⟨by simp, by omega⟩))
  have hm0 : ¬ most ≤ 0 := by omega
  generalize (metL T.items f t).take most.toNat = L at *
  have hqf : ∀ (w : World) (g : Fn) bt bs, (binOp .eql 42 (.func g bt bs) .nilFunc).run Try.prog w = .ok (.bool false) w := fun w g bt bs => run_eql_func_nil w _ _ _ _ g bt bs Try.underlying42
  have HM := hid (fun w => Meet_c q f t w)
  clear hq hr
  go_enter Try.func16, Try.ntmps16
  go_wp2_with fail
  refine (HM.out _).mono ?_
  rintro e w3 ⟨rfl, hw3⟩
  have hb0 : ((w.alloc (.cells #[.int .i64 most] 3)).alloc (.cells #[.slice none 0 0] 24)).heap[w.heap.size]? = some (.cells #[.int .i64 most] 3 (0, 0)) := heap_alloc_keep (heap_new w _) _
  have hb1 : ((w.alloc (.cells #[.int .i64 most] 3)).alloc (.cells #[.slice none 0 0] 24)).heap[w.heap.size + 1]? = some (.cells #[.slice none 0 0] 24 (0, 0)) := heap_newAt _ _ (by simp)
  have hg2 := Grow.trans (Grow.alloc w (.cells #[.int .i64 most] 3)) (Grow.alloc _ (.cells #[.slice none 0 0] 24))
  generalize (w.alloc (.cells #[.int .i64 most] 3)).alloc (.cells #[.slice none 0 0] 24) = w2 at *
  have hbx := Boxes.made w2 q f t
  have gA := Grow.trans (Grow.trans (Grow.alloc w2 (.cells #[.pointer q] 23)) (Grow.alloc _ (.cells #[.int .i64 f] 3))) (Grow.alloc _ (.cells #[.int .i64 t] 3))
  rw [← hw3] at hbx gA
  have G3 := hid (Grow.trans hg2 gA)
  have H0 := hid (gA.heap hb0)
  have H1 := hid (gA.heap hb1)
  have H2 := hid hbx
  clear hw3 hb0 hb1 hbx hg2 gA
  generalize w2.heap.size = z2 at *
  go_wp2_with fail
  refine (HA.out w3 G3.out _ _ _ _ _ H2.out H1.out H0.out (by omega)).mono ?_
  rintro e w4 ⟨⟨u, rfl⟩, ⟨lv, hlv, ho⟩, hs⟩
  obtain ⟨A, c, rfl⟩ := own_form ho
  have c0 := (heap_cell hlv 0).trans (show _ = some _ from rfl)
  have hlt := heap_lt hlv
  have HO := hid (own_sub ho G3.out.size)
  have HG := hid (show Grow w w4 from Below.trans G3.out (hs.below G3.out.size (by omega)))
  clear ho hs hlv
  go_wp2_with fail
  go_ret
  exact ⟨_, rfl, HO.out, HG.out⟩
end Go.Proofs.Ythmbnffddpnehaa
