/- The gaps, called: Gaps, and the law's own 'gaps'. -/
import Derived.Test.YthmbnffddpnehaaIGap2
namespace Go.Proofs.Ythmbnffddpnehaa
open Go.RowKit
set_option linter.unusedVariables false
set_option linter.unusedSimpArgs false
set_option maxRecDepth 100000 in
theorem Gaps_c (q : Option Addr) (f t : Int) (w : World) : Calls Try.prog 32 #[.pointer q, .int .i64 f, .int .i64 t] w fun e w' => e = .returned (.func (.func 40) #[] #[.pointer (some ⟨w.heap.size + 1, 0, none⟩), .pointer (some ⟨w.heap.size + 2, 0, none⟩), .pointer (some ⟨w.heap.size, 0, none⟩)]) ∧
    w' = ((w.alloc (.cells #[.pointer q] 23)).alloc (.cells #[.int .i64 f] 3)).alloc (.cells #[.int .i64 t] 3) := by
  go_enter Try.func32, Try.ntmps32
  go_wp2_with fail
  go_ret
  exact ⟨rfl, rfl⟩
/-- The gaps, as many as are asked for. -/
def gapsL (T : Tr) (f t most : Int) : List (Int × Int) := if f ≤ t then (gapsW t f (metT T f t)).take most.toNat else []
set_option maxRecDepth 100000 in
set_option maxHeartbeats 4000000 in
theorem gaps_c (q : Option Addr) (T : Tr) (f t most : Int) (w : World) (hq : Ptr w q T) (h1 : 1 ≤ most) (h2 : most ≤ 1000000) (hN : (metT T f t).length ≤ 1000000) :
    Calls Try.prog 13 #[.pointer q, .int .i64 f, .int .i64 t, .int .i64 most] w fun e w' => ∃ lv, e = .returned lv ∧ w'.ownsRow w.heap.size 36 2 lv (gapsL T f t most).length (sCells (gapsL T f t most)) ∧ Grow w w' := by
  have HA := hid (show ∀ (w3 : World) (g : Grow w w3) xb fb tb lb mb, Boxes w3 xb fb tb q f t → w3.heap[lb]? = some (.cells #[.slice none 0 0] 30 (0, 0)) → w3.heap[mb]? = some (.cells #[.int .i64 most] 3 (0, 0)) → mb ≠ lb →
      Calls Try.prog 40 #[.func (.func 33) #[] #[.pointer (some ⟨lb, 0, none⟩), .pointer (some ⟨mb, 0, none⟩)], .pointer (some ⟨fb, 0, none⟩), .pointer (some ⟨tb, 0, none⟩), .pointer (some ⟨xb, 0, none⟩)] w3 fun e w' => (∃ u, e = .returned u) ∧ GapsAt lb w3.heap.size w3 (gapsL T f t most) w' from
    fun w3 g xb fb tb lb mb hb hlb hmb hne => Gaps1_c q T f t most xb fb tb lb mb w3 hb (hq.grow g) hlb hmb hne h1 h2 hN)
  have hm0 : ¬ most ≤ 0 := by omega
  generalize gapsL T f t most = L at *
  have hqf : ∀ (w : World) (g : Fn) bt bs, (binOp .eql 78 (.func g bt bs) .nilFunc).run Try.prog w = .ok (.bool false) w := fun w g bt bs => run_eql_func_nil w _ _ _ _ g bt bs Try.underlying78
  have HM := hid (fun w => Gaps_c q f t w)
  clear hq hN
  go_enter Try.func13, Try.ntmps13
  go_wp2_with fail
  refine (HM.out _).mono ?_
  rintro e w3 ⟨rfl, hw3⟩
  have hb0 : ((w.alloc (.cells #[.int .i64 most] 3)).alloc (.cells #[.slice none 0 0] 30)).heap[w.heap.size]? = some (.cells #[.int .i64 most] 3 (0, 0)) := heap_alloc_keep (heap_new w _) _
  have hb1 : ((w.alloc (.cells #[.int .i64 most] 3)).alloc (.cells #[.slice none 0 0] 30)).heap[w.heap.size + 1]? = some (.cells #[.slice none 0 0] 30 (0, 0)) := heap_newAt _ _ (by simp)
  have hg2 := Grow.trans (Grow.alloc w (.cells #[.int .i64 most] 3)) (Grow.alloc _ (.cells #[.slice none 0 0] 30))
  generalize (w.alloc (.cells #[.int .i64 most] 3)).alloc (.cells #[.slice none 0 0] 30) = w2 at *
  have hbx := Boxes.made w2 q f t
  have gA := Grow.trans (Grow.trans (Grow.alloc w2 (.cells #[.pointer q] 23)) (Grow.alloc _ (.cells #[.int .i64 f] 3))) (Grow.alloc _ (.cells #[.int .i64 t] 3))
  rw [← hw3] at hbx gA
  have G3 := hid (Grow.trans hg2 gA)
  have H0 := hid (gA.heap hb0)
  have H1 := hid (gA.heap hb1)
  have H2 := hid hbx
  clear hw3 hb0 hb1 hbx hg2 gA
  generalize w2.heap.size = z2 at *
  go_wp2_with fail
  refine (HA.out w3 G3.out _ _ _ _ _ H2.out H1.out H0.out (by omega)).mono ?_
  rintro e w4 ⟨⟨u, rfl⟩, ⟨lv, hlv, ho⟩, hs⟩
  obtain ⟨A, c, rfl⟩ := own_form ho
  have c0 := (heap_cell hlv 0).trans (show _ = some _ from rfl)
  have hlt := heap_lt hlv
  have HO := hid (own_sub ho G3.out.size)
  have HG := hid (show Grow w w4 from Below.trans G3.out (hs.below G3.out.size (by omega)))
  clear ho hs hlv
  go_wp2_with fail
  go_ret
  exact ⟨_, rfl, HO.out, HG.out⟩
end Go.Proofs.Ythmbnffddpnehaa
