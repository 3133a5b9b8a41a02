/- The index: the other calls. -/
import Derived.Test.YthmbnffddpnehaaIAdd
namespace Go.Proofs.Ythmbnffddpnehaa
open Go.RowKit
set_option linter.unusedVariables false
set_option linter.unusedSimpArgs false
variable {w w' : World} {B p : Nat} {L : List It} {nx : Int} {N : Nat} {T : Tr} {mb : Nat}
theorem Kept.grow {bs : List Nat} {a b c : World} (h : Kept bs a b) (g : Grow b c) : Kept bs a c := h.trans (Kept.of_grow (bs := []) g) (fun j hj => by simp at hj)
theorem Grow.setNew {a b : World} (h : Grow a b) (g o : Nat) (v : Value) (hg : a.heap.size ≤ g) : Grow a (b.setCell ⟨g, o, none⟩ v) :=
  ⟨by rw [← h.os]; rfl, by rw [← h.tape]; rfl, by rw [← h.output]; rfl, by simpa using h.size, fun k hk => by rw [Below.heap_setCell _ _ _ _ (by simp; omega), h.block k hk]⟩
/-- A call's two results: a row in a block, and a value. -/
theorem results_row2 {P : Program} {fn : Func} {p u : Tmp} {ty : TypeId} (h : fn.results = #[.cell p ty, .tmp u]) (tmps : Array Value) (w : World) (g : Nat) (t : TypeId) (cs : Array Value) (fr : Nat × Nat) (d : TypeDesc)
    (hp : tmps.getD p undef = .pointer (some ⟨g, 0, none⟩)) (hg : w.heap[g]? = some (.cells cs t fr))
    (hu : P.underlying ty = some d) (hd : (match d with | .struct _ | .array _ _ => true | _ => false) = true) (hi : (P.info? ty).map (·.size) = some cs.size) :
    (results fn tmps).run P w = .ok (.tuple #[.agg cs, tmps.getD u undef]) w := by
  have hp' : tmps[p]?.getD undef = .pointer (some ⟨g, 0, none⟩) := by simpa using hp
  simp [results, h, hp', asAddr, Result.andThen, run_loadVar_row w g t ty cs fr d hg hu hd hi]
set_option maxRecDepth 100000 in
set_option maxHeartbeats 1000000 in
theorem New_c (w : World) (B : Nat) (hB : B ≤ w.heap.size) : Calls Try.prog 26 #[] w fun e w' => ∃ p mb, e = .returned (.pointer (some ⟨p, 0, none⟩)) ∧ IxAt w' B p [] 0 0 .nil mb ∧ Grow w w' := by
  have hmm := @run_makeMap Try.prog
  go_enter Try.func26, Try.ntmps26
  go_wp2_with fail
  go_ret
  refine ⟨_, w.heap.size, rfl, ⟨?_, trivial, rfl, by simp [Tr.blocks], trivial, ?_, by simp [Rises], by simp, by simp, by simp [Tr.Apart], ?_, hB, by simp [Tr.blocks]⟩, Grow.trans (Grow.alloc _ _) (Grow.alloc _ _)⟩
  · have := heap_new (w.alloc (.map #[] 0)) (.cells #[.pointer none, .map (some w.heap.size), .int .i64 0] 69)
    simpa [Tr.ptr] using this
  · exact (MapAt.made w).of_block (Below.heap_alloc _ _ _ (by simp))
  · first | omega | (simp; omega)
set_option maxRecDepth 100000 in
theorem Len_c (h : IxAt w B p L nx N T mb) : Calls Try.prog 25 #[.pointer (some ⟨p, 0, none⟩)] w fun e w' => e = .returned (.int .i64 (L.length : Int)) ∧ w' = w := by
  have c1 : w.cell? ⟨p, 1, none⟩ = some (.map (some mb)) := by rw [heap_cell h.box]; rfl
  have hp := heap_lt h.box
  have hlen := h.map.len 3
  clear h
  generalize L.length = n at *
  go_enter Try.func25, Try.ntmps25
  go_wp2_with fail
  go_ret
  exact ⟨rfl, rfl⟩
set_option maxRecDepth 100000 in
theorem Height_c (h : IxAt w B p L nx N T mb) : Calls Try.prog 29 #[.pointer (some ⟨p, 0, none⟩)] w fun e w' => e = .returned (.int .i64 T.high) ∧ w' = w := by
  have c0 : w.cell? ⟨p, 0, none⟩ = some T.ptr := by rw [heap_cell h.box]; rfl
  have hp := heap_lt h.box
  have HH := hid (height_c T w h.tree)
  obtain ⟨u, hu⟩ := T.ptr_form
  rw [hu] at c0 HH
  clear h hu
  generalize T.high = n at *
  go_enter Try.func29, Try.ntmps29
  go_wp2_with fail
  refine HH.out.mono ?_
  rintro e w2 ⟨rfl, rfl⟩
  go_wp2_with fail
  go_ret
  exact ⟨rfl, rfl⟩
def itemV (x : Option It) : Value := match x with
  | some x => .agg #[.int .i64 x.f, .int .i64 x.t, .string x.v]
  | none => .agg #[.int .i64 0, .int .i64 0, .string ByteArray.empty]
set_option maxRecDepth 100000 in
set_option maxHeartbeats 2000000 in
theorem GetNo_c (k : Int) (hk : -9223372036854775808 ≤ k ∧ k ≤ 9223372036854775807) (h : IxAt w B p L nx N T mb) (hl : look L k = none) :
    Calls Try.prog 24 #[.pointer (some ⟨p, 0, none⟩), .int .i64 k] w fun e w' => e = .returned (.tuple #[itemV none, .bool false]) ∧ Grow w w' := by
  have c1 : w.cell? ⟨p, 1, none⟩ = some (.map (some mb)) := by rw [heap_cell h.box]; rfl
  have hp := heap_lt h.box
  have HL := hid (fun (w' : World) (g : Grow w w') => (h.grow g).map.look_ok k hk)
  rw [hl] at HL
  have HLK := hid (HL.out (w.alloc (.cells #[.int .i64 0, .int .i64 0, .string ⟨#[]⟩] 46)) (Grow.alloc _ _))
  dsimp only [Option.map_none, Option.getD_none, Option.isSome_none] at HLK
  have HZ := hid (heap_new w (.cells #[.int .i64 0, .int .i64 0, .string ⟨#[]⟩] 46))
  clear h hl HL
  go_enter Try.func24, Try.ntmps24
  go_wp2_with (first | (at_lookup; refine wpList_lookupc_run _ rfl _ _ _ true rfl _ _ _ rfl rfl HLK.out ?_) | fail)
  (try simp only [Exit.inBlock, Exit.then])
  refine bodyPost_ret (v := .tuple #[itemV none, .bool false]) ?_ rfl ⟨rfl, ?_⟩
  · refine results_row2 (fn := Try.f24) (p := 4) (u := 5) rfl _ _ w.heap.size 46 _ (0, 0) _ rfl HZ.out Try.underlying46 rfl ?_
    kernel_rfl
  · exact Grow.alloc _ _
theorem Tr.In.find {f id : Int} : ∀ {T : Tr}, T.In w → (T.find f id).In w
  | .nil, _ => trivial
  | .node b x l r, h => by
    simp only [Tr.find]
    split
    · exact h
    · split
      · exact h.2.1.find
      · exact h.2.2.find
theorem look_some {L : List It} {k : Int} {z : It} (h : look L k = some z) : z ∈ L ∧ z.id = k := by
  unfold look at h
  exact ⟨List.mem_of_find?_eq_some h, by simpa using List.find?_some h⟩
set_option maxRecDepth 100000 in
set_option maxHeartbeats 2000000 in
theorem GetYes_c (k : Int) (hk : -9223372036854775808 ≤ k ∧ k ≤ 9223372036854775807) (z : It) (h : IxAt w B p L nx N T mb) (hl : look L k = some z) :
    Calls Try.prog 24 #[.pointer (some ⟨p, 0, none⟩), .int .i64 k] w fun e w' => e = .returned (.tuple #[itemV (some z), .bool true]) ∧ Grow w w' := by
  have c0 : w.cell? ⟨p, 0, none⟩ = some T.ptr := by rw [heap_cell h.box]; rfl
  have c1 : w.cell? ⟨p, 1, none⟩ = some (.map (some mb)) := by rw [heap_cell h.box]; rfl
  have hp := heap_lt h.box
  obtain ⟨hz, hzk⟩ := look_some hl
  have HL := hid (fun (w' : World) (g : Grow w w') => (h.grow g).map.look_ok k hk)
  rw [hl] at HL
  have HLK := hid (HL.out (w.alloc (.cells #[.int .i64 0, .int .i64 0, .string ⟨#[]⟩] 46)) (Grow.alloc _ _))
  dsimp only [Option.map_some, Option.getD_some, Option.isSome_some] at HLK
  have HZ := hid (heap_new w (.cells #[.int .i64 0, .int .i64 0, .string ⟨#[]⟩] 46))
  obtain ⟨b, l, r, hfd⟩ := Tr.find_node z T (by rw [h.items]; exact h.rises) (by rw [h.items]; exact h.apart) (by rw [h.items]; exact hz)
  rw [hzk] at hfd
  have hin := h.tree.find (f := z.f) (id := k)
  rw [hfd] at hin
  have HFC := hid (find_c z.f k T _ ((h.grow (Grow.alloc w (.cells #[.int .i64 0, .int .i64 0, .string ⟨#[]⟩] 46))).tree))
  rw [hfd] at HFC
  rw [show (Tr.node b z l r).ptr = .pointer (some ⟨b, 0, none⟩) from rfl] at HFC
  obtain ⟨hb, d0, d1, d2, -, -, -, -, -⟩ := hin.1.cells
  obtain ⟨u, hu⟩ := T.ptr_form
  rw [hu] at HFC c0
  clear h hl HL hin hfd hz hu hzk
  obtain ⟨zi, zf, zt, zv⟩ := z
  dsimp only [itemV] at *
  have hne : ¬ b = w.heap.size := by omega
  have hne2 : ¬ w.heap.size = b := by omega
  go_enter Try.func24, Try.ntmps24
  go_wp2_with (first | (at_lookup; refine wpList_lookupc_run _ rfl _ _ _ true rfl _ _ _ rfl rfl HLK.out ?_) | fail)
  refine HFC.out.mono ?_
  rintro e w2 ⟨rfl, rfl⟩
  go_wp2_with fail
  (try simp only [Exit.inBlock, Exit.then])
  refine bodyPost_ret (v := .tuple #[.agg #[.int .i64 zf, .int .i64 zt, .string zv], .bool true]) ?_ rfl ⟨rfl, ?_⟩
  · refine results_row2 (fn := Try.f24) (p := 4) (u := 5) rfl _ _ w.heap.size 46 _ (0, 0) _ rfl (heap_new w _) Try.underlying46 rfl ?_
    kernel_rfl
  · exact Grow.alloc _ _
theorem look_filter {L : List It} (k j : Int) : look (L.filter (fun x => decide (x.id ≠ k))) j = if k = j then none else look L j := by
  induction L with
  | nil => simp [look]
  | cons x r ih =>
    unfold look at ih ⊢
    by_cases hx : x.id = k
    · rw [List.filter_cons_of_neg (by simp [hx]), ih]
      by_cases hj : k = j
      · simp [hj]
      · have : (x.id == j) = false := by simp; omega
        simp [List.find?_cons, this, hj]
    · rw [List.filter_cons_of_pos (by simp [hx])]
      by_cases hxj : x.id = j
      · have : ¬ k = j := by omega
        simp [List.find?_cons, hxj, this]
      · have h2 : (x.id == j) = false := by simpa using hxj
        simp only [List.find?_cons, h2, ih]
theorem len_filter {L : List It} {z : It} (h : Tr.Apart L) (hz : z ∈ L) : (L.filter (fun x => decide (x.id ≠ z.id))).length = L.length - 1 := by
  induction L with
  | nil => simp at hz
  | cons x r ih =>
    unfold Tr.Apart at h ih
    rw [List.pairwise_cons] at h
    by_cases hx : x.id = z.id
    · rw [List.filter_cons_of_neg (by simp [hx]), Tr.filter_keep z.id r (fun u hu => by have := h.1 u hu; omega)]
      simp
    · rw [List.filter_cons_of_pos (by simp [hx])]
      rcases List.mem_cons.1 hz with rfl | hz
      · exact absurd rfl hx
      · have := ih h.2 hz
        have hr : 0 < r.length := List.length_pos_of_mem hz
        simp only [List.length_cons]
        omega
/-- What Remove leaves. -/
def RemIx (B p : Nat) (L : List It) (nx : Int) (N : Nat) (k : Int) (w : World) (e : Ending) (w' : World) : Prop :=
  e = .returned (.bool (look L k).isSome) ∧ (∃ T' mb', IxAt w' B p (L.filter (fun x => decide (x.id ≠ k))) nx N T' mb') ∧ Turn B w w'
set_option maxRecDepth 100000 in
set_option maxHeartbeats 2000000 in
theorem RemoveNo_c (k : Int) (hk : -9223372036854775808 ≤ k ∧ k ≤ 9223372036854775807) (h : IxAt w B p L nx N T mb) (hl : look L k = none) :
    Calls Try.prog 23 #[.pointer (some ⟨p, 0, none⟩), .int .i64 k] w (RemIx B p L nx N k w) := by
  have c1 : w.cell? ⟨p, 1, none⟩ = some (.map (some mb)) := by rw [heap_cell h.box]; rfl
  have hp := heap_lt h.box
  have HLK := hid (h.map.look_ok k hk)
  rw [hl] at HLK
  dsimp only [Option.map_none, Option.getD_none, Option.isSome_none] at HLK
  have HH := hid (And.intro h hl)
  clear h hl
  go_enter Try.func23, Try.ntmps23
  go_wp2_with (first | (at_lookup; refine wpList_lookupc_run _ rfl _ _ _ true rfl _ _ _ rfl rfl HLK.out ?_) | fail)
  go_ret
  obtain ⟨h, hl⟩ := HH.out
  have e1 : L.filter (fun x => decide (x.id ≠ k)) = L := Tr.filter_keep k L (fun x hx e => by
    unfold look at hl
    have := List.find?_eq_none.1 hl x hx
    simp [e] at this)
  unfold RemIx
  rw [e1, hl]
  exact ⟨rfl, ⟨T, mb, h⟩, Turn.refl _ _⟩
set_option maxRecDepth 100000 in
set_option maxHeartbeats 4000000 in
theorem RemoveYes_c (k : Int) (hk : -9223372036854775808 ≤ k ∧ k ≤ 9223372036854775807) (z : It) (hL : L.length ≤ 500000) (h : IxAt w B p L nx N T mb) (hl : look L k = some z) :
    Calls Try.prog 23 #[.pointer (some ⟨p, 0, none⟩), .int .i64 k] w (RemIx B p L nx N k w) := by
  have c0 : w.cell? ⟨p, 0, none⟩ = some T.ptr := by rw [heap_cell h.box]; rfl
  have c1 : w.cell? ⟨p, 1, none⟩ = some (.map (some mb)) := by rw [heap_cell h.box]; rfl
  have hp := heap_lt h.box
  obtain ⟨hz, hzk⟩ := look_some hl
  have HLK := hid (h.map.look_ok k hk)
  rw [hl] at HLK
  dsimp only [Option.map_some, Option.getD_some, Option.isSome_some] at HLK
  have HR := hid (remove_c z.f k T w h.tree h.nodup (by rw [h.size]; omega))
  have HH := hid (And.intro h (And.intro hl (And.intro hz (And.intro hzk (And.intro hL h.off)))))
  obtain ⟨u, hu⟩ := T.ptr_form
  obtain ⟨ui, hui⟩ := (T.rem z.f k).ptr_form
  have HU := hid (And.intro hu hui)
  rw [hu] at HR c0
  generalize hzf : z.f = zf at *
  have HZF := hid hzf
  clear h hl hz hzk hL hu hui hzf
  go_enter Try.func23, Try.ntmps23
  go_wp2_with (first | (at_lookup; refine wpList_lookupc_run _ rfl _ _ _ true rfl _ _ _ rfl rfl HLK.out ?_) | fail)
  refine HR.out.mono ?_
  rintro e w7 ⟨rfl, h7, k7⟩
  rw [HU.out.2]
  have B7 := k7.node HH.out.1.box HH.out.2.2.2.2.2.1
  have d0 : w7.cell? ⟨p, 0, none⟩ = some (.pointer u) := by rw [heap_cell B7, ← HU.out.1]; rfl
  have d1 : w7.cell? ⟨p, 1, none⟩ = some (.map (some mb)) := by rw [heap_cell B7]; rfl
  have q0 := heap_frozen B7 0 (by omega)
  have hp7 := heap_lt B7
  have B8 : (w7.setCell ⟨p, 0, none⟩ (.pointer ui)).heap[p]? = some (.cells #[(T.rem zf k).ptr, .map (some mb), .int .i64 nx] 69 (0, 0)) := by rw [HU.out.2]; exact heap_set B7 0 _
  have K8 : Kept [p] w7 (w7.setCell ⟨p, 0, none⟩ (.pointer ui)) := (Kept.refl [p] w7).set p 0 _ (by simp)
  have hpi : p ∉ (T.rem zf k).blocks := fun e => HH.out.2.2.2.2.2.1 ((Tr.rem_sub zf k T).2 p e)
  have T8 := K8.tree h7 (fun k hk e => by simp at e; subst e; exact hpi hk)
  have M8 := (HH.out.1.map.of_block (k7.block mb HH.out.1.map.lt HH.out.2.2.2.2.2.2.1)).of_block (K8.block mb (by have := HH.out.1.map.lt; have := k7.size; omega) (by simp; exact fun e => HH.out.2.2.2.2.2.2.2 e.symm))
  obtain ⟨w9, hrun, M9, g9⟩ := M8.drop k hk (by rw [HH.out.2.1]; rfl) 0
  have HE := hid (And.intro B8 (And.intro K8 (And.intro T8 (And.intro hpi (And.intro k7 (And.intro M8.lt (And.intro M9 g9)))))))
  clear B7 B8 K8 hpi T8 M8 h7 k7 c0 c1 HLK HR M9 g9
  go_wp2_with fail
  go_ret
  obtain ⟨B8, K8, T8, hpi, k7, hml, M9, g9⟩ := HE.out
  obtain ⟨hO, hl, hz, hzk, hL, hq⟩ := HH.out
  have hsub := (Tr.rem_sub zf k T).2
  have T9 : (T.rem zf k).In w9 := T8.kept (fun b hb => g9.block b (T8.lt b hb) (fun e => by
    injection e with e
    subst e
    exact hq.2.1 (hsub _ hb)))
  unfold RemIx
  rw [hl]
  refine ⟨rfl, ⟨T.rem zf k, mb, ⟨?_, T9, ?_, (Tr.rem_sub zf k T).1 hO.nodup, (Tr.bal_rem _ _ T hO.bal).1, ?_, hO.rises.filter _, ?_, ?_, List.Pairwise.filter _ hO.apart, hO.basep, hO.basem, fun b hb => hO.baset b (hsub b hb)⟩⟩, ⟨?_, ?_⟩⟩
  · exact (g9.block p (heap_lt B8) (by intro e; injection e with e; exact hq.2.2 e)).trans B8
  · have := Tr.items_rem z T (by rw [hO.items]; exact hO.rises) (by rw [hO.items]; exact hO.apart) (by rw [hO.items]; exact hz)
    rw [HZF.out, hzk, hO.items] at this
    exact this
  · rw [show (L.filter (fun x => decide (x.id ≠ k))).length = L.length - 1 by rw [← hzk]; exact len_filter hO.apart hz]
    refine M9.same (fun j => ?_)
    rw [look_filter]
    by_cases hj : k = j
    · simp [hj]
    · simp [hj]
  · intro x hx
    exact hO.ids x (List.mem_filter.1 hx).1
  · intro x hx
    exact hO.fits x (List.mem_filter.1 hx).1
  · have hall : ∀ j, j < w.heap.size → j ≠ p → j ≠ mb → j ∉ T.blocks → w9.heap[j]? = w.heap[j]? := fun j hj h1 h2 h3 => by
      have e1 := g9.block j (by have := K8.size; have := k7.size; omega) (by intro e; injection e with e; exact h2 e)
      have e2 := K8.block j (by have := k7.size; omega) (by simpa using h1)
      exact e1.trans (e2.trans (k7.block j hj h3))
    refine ⟨?_, ?_, ?_, ?_, fun j hj => hall j ?_ ?_ ?_ ?_⟩
    · rw [g9.os, K8.os, k7.os]
    · rw [g9.tape, K8.tape, k7.tape]
    · rw [g9.output, K8.output, k7.output]
    · have := g9.size; have := K8.size; have := k7.size; omega
    · have := heap_lt hO.box; have := hO.basep; omega
    · have := hO.basep; omega
    · have := hO.basem; omega
    · intro e; have := hO.baset j e; omega
  · intro j o hj ho
    have hlt := heap_lt hj
    have e3 := k7.block j hlt (fun e => by
      obtain ⟨cs, hc⟩ := hO.tree.kind j e
      rw [hj] at hc
      injection hc with hc
      subst hc
      exact ho.2 rfl)
    have hkp : j ≠ p := fun e => by
      have hb := hO.box
      rw [← e, hj] at hb
      injection hb with hb
      subst hb
      exact ho.1 rfl
    have hkm : j ≠ mb := fun e => by
      obtain ⟨es, clock, hm⟩ := hO.map.obj
      rw [← e, hj] at hm
      injection hm with hm
      subst hm
      exact ho
    have e1 := g9.block j (by have := K8.size; have := k7.size; omega) (by intro e; injection e with e; exact hkm e)
    have e2 := K8.block j (by have := k7.size; omega) (by simpa using hkp)
    exact (e1.trans (e2.trans e3)).trans hj
end Go.Proofs.Ythmbnffddpnehaa
