/- The chapter's examples. -/
import Derived.Test.YteilkcdbdpkbfaaDoorQPrint
namespace Go.Proofs.YteilkcdbdpkbfaaDoor
open Go.RowKit
set_option linter.unusedVariables false
set_option linter.unusedSimpArgs false
theorem can_of_parse {L : List UInt8} {q : QueryR} {a e : Nat} (h : parseP L = ⟨q, a, e⟩) : q.Can := by
  have hf := parseP_fit L
  rw [h] at hf
  obtain ⟨h1, h2, h3, h4, h5⟩ := hf
  simp only at h1 h2 h3 h4 h5
  exact ⟨h1, by omega, by omega, ⟨by omega, by omega⟩⟩
set_option maxRecDepth 100000 in
set_option maxHeartbeats 4000000 in
theorem prints_c (s want : ByteArray) (q : QueryR) (a : Nat) (w : World) (hs : s.size ≤ 4096) (hp : parseP s.data.toList = ⟨q, a, 0⟩) (hq : printP q = (want, 0)) (ht1 : tabSpace w) (ht2 : tabPow w) :
    Calls Tryd.prog 16 #[.string s, .string want] w fun e w' => e = .returned (.bool true) ∧ Grow w w' := by
  have hc := can_of_parse hp
  have HPA := Parse_c s w (by omega)
  rw [hp] at HPA
  replace HPA := hid HPA
  obtain ⟨n, o, d, l, c⟩ := q
  have HPR := hid (fun (u : Value) (S : Nat → Prop) (w2 : World) (g : Grow w w2) => Print_c ⟨n, o, d, l, c⟩ hc S u w2 (tab_grow ht1 g) (tab_grow ht2 g))
  rw [hq] at HPR
  clear hp hq hc ht1 ht2
  go_enter Tryd.func16, Tryd.ntmps16
  go_wp2_with fail
  refine HPA.out.mono ?_
  rintro e w1 ⟨v, rfl, ⟨c0, c1, c2, c3, c4, rfl, hin⟩, g1⟩
  simp only at hin ⊢
  obtain ⟨bk, bp, bn, bc, bf, bs, bx, e⟩ := NodeR.In.value hin
  simp only [Value.agg.injEq, Array.mk.injEq, List.cons.injEq, and_true] at e
  obtain ⟨rfl, rfl, rfl, rfl, rfl⟩ := e
  have GA := hid (Grow.alloc w1 (.cells #[.int .i64 bk, .slice bp bn bc, .string bf, .string bs, .int .i64 bx, .string o, .bool d, .int .i64 l, .bool c] 26))
  have PR := hid (HPR.out _ _ _ (g1.trans GA.out) ⟨_, _, _, _, _, rfl, NodeR.In.grow GA.out hin⟩)
  have G1 := hid (g1.trans GA.out)
  clear g1 hin HPR
  go_wp2_with fail
  refine PR.out.mono ?_
  rintro e w3 ⟨rfl, g3⟩
  go_wp2_with fail
  go_ret
  exact ⟨rfl, G1.out.trans g3⟩
theorem ex1 : parseP [97, 61, 49] = ⟨.zero, 0, 41⟩ := by kernel_rfl
theorem ex2 : parseP [105, 100, 60] = ⟨.zero, 3, 42⟩ := by kernel_rfl
theorem ex3 : parseP [107, 105, 110, 100, 60, 113, 117, 101, 117, 101] = ⟨.zero, 5, 43⟩ := by kernel_rfl
def exS : ByteArray := ⟨#[105, 100, 61, 49, 32, 111, 114, 32, 110, 111, 116, 32, 107, 105, 110, 100, 61, 113, 117, 101, 117, 101]⟩
def exT : ByteArray := ⟨#[105, 100, 32, 61, 32, 49, 32, 111, 114, 32, 110, 111, 116, 32, 107, 105, 110, 100, 32, 61, 32, 113, 117, 101, 117, 101]⟩
theorem ex4 : parseP exS.data.toList = ⟨(parseP exS.data.toList).q, 22, 0⟩ := by kernel_rfl
theorem ex5 : printP (parseP exS.data.toList).q = (exT, 0) := by kernel_rfl
set_option maxRecDepth 100000 in
set_option maxHeartbeats 4000000 in
theorem awake_c (w : World) (ht1 : tabSpace w) (ht2 : tabPow w) : Calls Tryd.prog 9 #[] w fun e w' => e = .returned (.bool true) ∧ Grow w w' := by
  have H1 := hid (fun w' => Parse_c ⟨#[97, 61, 49]⟩ w' (by decide))
  have H2 := hid (fun w' => Parse_c ⟨#[105, 100, 60]⟩ w' (by decide))
  have H3 := hid (fun w' => Parse_c ⟨#[107, 105, 110, 100, 60, 113, 117, 101, 117, 101]⟩ w' (by decide))
  have H4 := hid (fun w' (g : Grow w w') => prints_c exS exT _ _ w' (by decide) ex4 ex5 (tab_grow ht1 g) (tab_grow ht2 g))
  clear ht1 ht2
  rw [show (ByteArray.mk #[97, 61, 49]).data.toList = [97, 61, 49] from rfl, ex1] at H1
  rw [show (ByteArray.mk #[105, 100, 60]).data.toList = [105, 100, 60] from rfl, ex2] at H2
  rw [show (ByteArray.mk #[107, 105, 110, 100, 60, 113, 117, 101, 117, 101]).data.toList = [107, 105, 110, 100, 60, 113, 117, 101, 117, 101] from rfl, ex3] at H3
  go_enter Tryd.func9, Tryd.ntmps9
  go_wp2_with fail
  refine (H1.out _).mono ?_
  rintro e w1 ⟨v, rfl, ⟨c0, c1, c2, c3, c4, rfl, hin⟩, g1⟩
  obtain ⟨bk, bp, bn, bc, bf, bs, bx, e⟩ := NodeR.In.value hin
  simp only [Value.agg.injEq, Array.mk.injEq, List.cons.injEq, and_true] at e
  obtain ⟨rfl, rfl, rfl, rfl, rfl⟩ := e
  clear hin
  go_wp2_with fail
  refine (H2.out _).mono ?_
  rintro e w2 ⟨v, rfl, ⟨c0, c1, c2, c3, c4, rfl, hin⟩, g2⟩
  obtain ⟨ck, cp, cn, cc, cf, cs, cx, e⟩ := NodeR.In.value hin
  simp only [Value.agg.injEq, Array.mk.injEq, List.cons.injEq, and_true] at e
  obtain ⟨rfl, rfl, rfl, rfl, rfl⟩ := e
  clear hin
  go_wp2_with fail
  refine (H3.out _).mono ?_
  rintro e w3 ⟨v, rfl, ⟨c0, c1, c2, c3, c4, rfl, hin⟩, g3⟩
  obtain ⟨dk, dp, dn, dc, df, ds, dx, e⟩ := NodeR.In.value hin
  simp only [Value.agg.injEq, Array.mk.injEq, List.cons.injEq, and_true] at e
  obtain ⟨rfl, rfl, rfl, rfl, rfl⟩ := e
  clear hin
  have G := hid ((((g1.trans (Grow.alloc w1 _)).trans g2).trans ((Grow.alloc w2 _).trans g3)).trans (Grow.alloc w3 (.cells #[.int .i64 dk, .slice dp dn dc, .string df, .string ds, .int .i64 dx, .string QueryR.zero.order, .bool QueryR.zero.down, .int .i64 QueryR.zero.limit, .bool QueryR.zero.count] 26)))
  go_wp2_with fail
  refine (H4.out _ G.out).mono ?_
  rintro e w4 ⟨rfl, g4⟩
  go_wp2_with fail
  go_ret
  exact ⟨rfl, G.out.trans g4⟩
end Go.Proofs.YteilkcdbdpkbfaaDoor
