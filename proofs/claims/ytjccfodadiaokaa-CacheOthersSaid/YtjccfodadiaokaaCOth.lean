/- Caches of both kinds, and a map of texts to numbers, in the heap. -/
import Derived.Test.YtjccfodadiaokaaCIn
import Derived.Test.YtjccfodadiaokaaCSCalls
import Derived.Maps.OwnOps
import Derived.Maps.OwnSet
import Derived.Maps.Views
import Derived.StringKeys
import Derived.Deep.Strs
import Derived.Test.YtjccfodadiaokaaLawBase
namespace Go.Proofs.Ytjccfodadiaokaa
open Go.RowKit Go.Maps
set_option linter.unusedVariables false
set_option linter.unusedSimpArgs false
theorem keyedStr : Keyed Try.prog 9 := string_keyed Try.underlying9
theorem zeroI (w : World) : (zeroValue 3).run Try.prog w = .ok (.int .i64 0) w := by kernel_rfl
theorem wf_i {k : Int} (h : -9223372036854775808 ≤ k ∧ k ≤ 9223372036854775807) : (Lit.int .i64 k).wf = true := by
  have e1 : IntKind.min .i64 = -9223372036854775808 := by decide
  have e2 : IntKind.max .i64 = 9223372036854775807 := by decide
  simp [Lit.wf, e1, e2]
  omega
/-- The map of texts to numbers, read. -/
def SMapAt (w : World) (mb n : Nat) (f : ByteArray → Option Int) : Prop := ∃ D : DataW Nat, w.ownsMap Try.prog 9 (plainElem Try.prog 3) mb n D ∧
  ∀ k : ByteArray, has D (.string k.data.toList) = (f k).isSome ∧ D.atKey (.string k.data.toList) (.lit (.int .i64 0)) = .lit (.int .i64 ((f k).getD 0))
theorem SMapAt.of_block {w w' : World} {mb n : Nat} {f : ByteArray → Option Int} (h : SMapAt w mb n f) (hb : w'.heap[mb]? = w.heap[mb]?) : SMapAt w' mb n f := by
  obtain ⟨D, ⟨es, clock, h1, h2, h3, h4⟩, h5⟩ := h
  exact ⟨D, ⟨es, clock, hb.trans h1, h2, h3, h4⟩, h5⟩
theorem SMapAt.lt {w : World} {mb n : Nat} {f : ByteArray → Option Int} (h : SMapAt w mb n f) : mb < w.heap.size := by
  obtain ⟨D, h1, _⟩ := h
  exact h1.lt
theorem SMapAt.obj {w : World} {mb n : Nat} {f : ByteArray → Option Int} (h : SMapAt w mb n f) : ∃ es clock, w.heap[mb]? = some (.map es clock) := by
  obtain ⟨D, ⟨es, clock, h1, -⟩, -⟩ := h
  exact ⟨es, clock, h1⟩
theorem SMapAt.made (w : World) : SMapAt (w.alloc (.map #[] 0)) w.heap.size 0 (fun _ => none) :=
  ⟨.map [], World.ownsMap_made w Try.prog _ _, fun k => ⟨rfl, rfl⟩⟩
set_option maxRecDepth 100000 in
theorem SMapAt.look {w : World} {mb n : Nat} {f : ByteArray → Option Int} (h : SMapAt w mb n f) (k : ByteArray) (hk : k.size ≤ maxLen) : (Instr.lookup 44 (.map (some mb)) (.string k) false).run Try.prog w = .ok (.int .i64 ((f k).getD 0)) w := by
  obtain ⟨D, h1, h2⟩ := h
  obtain ⟨c, hrun, hc, -⟩ := h1.lookup_int keyedStr Try.underlying44 Try.underlying3 (zeroI w) (Go.WideMaps.keyOf_string_mk Try.underlying9 hk)
  rw [hrun]
  have e := (h2 k).2
  rw [e] at hc
  injection hc with hc
  injection hc with _ hc
  rw [hc]
set_option maxRecDepth 100000 in
theorem SMapAt.look_ok {w : World} {mb n : Nat} {f : ByteArray → Option Int} (h : SMapAt w mb n f) (k : ByteArray) (hk : k.size ≤ maxLen) : (Instr.lookup 44 (.map (some mb)) (.string k) true).run Try.prog w = .ok (.tuple #[.int .i64 ((f k).getD 0), .bool (f k).isSome]) w := by
  obtain ⟨D, h1, h2⟩ := h
  obtain ⟨v, ps, hrun, hv⟩ := h1.look_ok keyedStr Try.underlying44 (zeroI w) (plainElem_int Try.underlying3 (by decide)) (Go.WideMaps.keyOf_string_mk Try.underlying9 hk)
  obtain ⟨c, rfl, hc, -⟩ := plainElem_int_inv Try.underlying3 hv
  rw [hrun, (h2 k).1]
  have e := (h2 k).2
  have := congrArg Prod.fst hc
  simp only at this
  rw [e] at this
  injection this with this
  injection this with _ this
  rw [this]
theorem SMapAt.upd {w : World} {mb n : Nat} {f : ByteArray → Option Int} (h : SMapAt w mb n f) (hn : n < maxLen) (k : ByteArray) (s : Int) (hk : k.size ≤ maxLen) (hs : -9223372036854775808 ≤ s ∧ s ≤ 9223372036854775807) :
    ∃ w', (Instr.mapUpdate 44 (.map (some mb)) (.string k) (.int .i64 s)).run Try.prog w = .ok () w' ∧ SMapAt w' mb (n + 1) (fun q => if k = q then some s else f q) ∧ w.grownBy w' (some mb) := by
  obtain ⟨D, h7, h8⟩ := h
  obtain ⟨w', hrun, hown, hg⟩ := h7.update keyedStr Try.underlying44 hn (Go.WideMaps.keyOf_string_mk Try.underlying9 hk) (plainElem_int Try.underlying3 (wf_i hs))
  refine ⟨w', hrun, ⟨_, hown, fun q => ?_⟩, hg⟩
  by_cases hq : k = q
  · subst hq
    dsimp only
    rw [if_pos rfl, atKey_put_same h7.isMap (by trivial), has_put_same h7.isMap (by trivial)]
    exact ⟨rfl, rfl⟩
  · dsimp only
    have hne : (Lit.string q.data.toList) ≠ .string k.data.toList := by
      intro e
      injection e with e
      exact hq (Go.WideShapes.bytes_inj e).symm
    rw [if_neg hq, atKey_put_other hne, has_put_other hne]
    exact h8 q
/-- Blocks of other kinds stay. -/
def otherS (o : Obj) : Prop := match o with
  | .cells _ e _ => e ≠ 76 ∧ e ≠ 79
  | _ => True
def otherI (o : Obj) : Prop := match o with
  | .cells _ e _ => e ≠ 65 ∧ e ≠ 71
  | _ => True
theorem keepS {p : Nat} {most : Int} {v : Value} {l l' : List Str.CItem} {w w' : World} (hm : Str.Behind p most v l' w w') (h : Str.CacheAt w p most v l) {b : Nat} {o : Obj} (hb : w.heap[b]? = some o) (ho : otherS o) : w'.heap[b]? = some o := by
  obtain ⟨v', -, hM, -⟩ := hm
  refine (hM.block b (heap_lt hb) ?_ ?_).trans hb
  · rintro rfl
    rw [h.1] at hb
    injection hb with hb
    subst hb
    exact ho.1 rfl
  · intro e
    rcases h.2.2 with ⟨rfl, -⟩ | ⟨g, cap, cur, rfl, h2', hg, -⟩
    · cases e
    · cases e
      rw [hg] at hb
      injection hb with hb
      subst hb
      exact ho.2 rfl
theorem keepI {p : Nat} {most : Int} {v : Value} {l l' : List CItem} {w w' : World} (hm : Behind p most v l' w w') (h : CacheAt w p most v l) {b : Nat} {o : Obj} (hb : w.heap[b]? = some o) (ho : otherI o) : w'.heap[b]? = some o := by
  obtain ⟨v', -, hM, -⟩ := hm
  refine (hM.block b (heap_lt hb) ?_ ?_).trans hb
  · rintro rfl
    rw [h.1] at hb
    injection hb with hb
    subst hb
    exact ho.1 rfl
  · intro e
    rcases h.2.2 with ⟨rfl, -⟩ | ⟨g, cap, cur, rfl, h2', hg, -⟩
    · cases e
    · cases e
      rw [hg] at hb
      injection hb with hb
      subst hb
      exact ho.2 rfl
theorem CacheAt.keepO {w w' : World} {p : Nat} {most : Int} {v : Value} {l : List CItem} (h : CacheAt w p most v l) (hk : ∀ (b : Nat) (o : Obj), w.heap[b]? = some o → (∃ cs e fr, o = .cells cs e fr ∧ (e = 65 ∨ e = 71)) → w'.heap[b]? = some o) : CacheAt w' p most v l := by
  refine ⟨hk _ _ h.1 ⟨_, _, _, rfl, .inl rfl⟩, h.2.1, ?_⟩
  rcases h.2.2 with h1 | ⟨gg, cap, cur, h1, h2, hg, h4⟩
  · exact .inl h1
  · exact .inr ⟨gg, cap, cur, h1, h2, hk _ _ hg ⟨_, _, _, rfl, .inr rfl⟩, h4⟩
theorem Str.CacheAt.keepO {w w' : World} {p : Nat} {most : Int} {v : Value} {l : List Str.CItem} (h : Str.CacheAt w p most v l) (hk : ∀ (b : Nat) (o : Obj), w.heap[b]? = some o → (∃ cs e fr, o = .cells cs e fr ∧ (e = 76 ∨ e = 79)) → w'.heap[b]? = some o) : Str.CacheAt w' p most v l := by
  refine ⟨hk _ _ h.1 ⟨_, _, _, rfl, .inl rfl⟩, h.2.1, ?_⟩
  rcases h.2.2 with h1 | ⟨gg, cap, cur, h1, h2, hg, h4⟩
  · exact .inl h1
  · exact .inr ⟨gg, cap, cur, h1, h2, hk _ _ hg ⟨_, _, _, rfl, .inr rfl⟩, h4⟩
/-- Both caches, and the map. -/
def Three (w wr : World) (p q mb : Nat) (most : Int) (lc : List Str.CItem) (ld : List CItem) (n : Nat) (f : ByteArray → Option Int) : Prop := ∃ vc vd, Str.CacheAt wr p most vc lc ∧ CacheAt wr q most vd ld ∧ SMapAt wr mb n f ∧
  Below w.heap.size w wr ∧ w.heap.size ≤ p ∧ w.heap.size ≤ q ∧ w.heap.size ≤ mb ∧ (∀ k, vc.ownBlock = some k → w.heap.size ≤ k) ∧ (∀ k, vd.ownBlock = some k → w.heap.size ≤ k)
section
variable {w wr : World} {p q mb : Nat} {most : Int} {lc : List Str.CItem} {ld : List CItem} {n : Nat} {f : ByteArray → Option Int}
theorem Three.below (h : Three w wr p q mb most lc ld n f) : Below w.heap.size w wr := by
  obtain ⟨vc, vd, -, -, -, h, -⟩ := h
  exact h
theorem Three.map (h : Three w wr p q mb most lc ld n f) : SMapAt wr mb n f := by
  obtain ⟨vc, vd, -, -, h, -⟩ := h
  exact h
theorem Three.grow {w' : World} (h : Three w wr p q mb most lc ld n f) (g : Grow wr w') : Three w w' p q mb most lc ld n f := by
  obtain ⟨vc, vd, h1, h2, h3, h4, h5⟩ := h
  exact ⟨vc, vd, h1.grow g, h2.grow g, h3.of_block (g.block mb h3.lt), Below.trans h4 (Below.mono g h4.size), h5⟩
theorem Three.stepS {w' : World} {vc vd : Value} {lc' : List Str.CItem} (h1 : Str.CacheAt wr p most vc lc) (h2 : CacheAt wr q most vd ld) (h3 : SMapAt wr mb n f)
    (h4 : Below w.heap.size w wr) (h5 : w.heap.size ≤ p) (h6 : w.heap.size ≤ q) (h7 : w.heap.size ≤ mb) (h8 : ∀ k, vc.ownBlock = some k → w.heap.size ≤ k) (h9 : ∀ k, vd.ownBlock = some k → w.heap.size ≤ k) (hb : Str.Behind p most vc lc' wr w') : Three w w' p q mb most lc' ld n f := by
  have c2 := h2.keepO (fun b o hbo ⟨cs, e, fr, ho, he⟩ => keepS hb h1 hbo (by subst ho; show _ ∧ _; rcases he with rfl | rfl <;> decide))
  obtain ⟨es, clock, hm⟩ := h3.obj
  have c3 := h3.of_block ((keepS hb h1 hm trivial).trans hm.symm)
  obtain ⟨v', k1, k2, k3⟩ := hb
  exact ⟨v', vd, k1, c2, c3, Below.trans h4 (Str.Moved.below k2 h4.size h5 h8), h5, h6, h7, fun k hk => (k3 k hk).elim (h8 k) (Nat.le_trans h4.size), h9⟩
theorem Three.stepI {w' : World} {vc vd : Value} {ld' : List CItem} (h1 : Str.CacheAt wr p most vc lc) (h2 : CacheAt wr q most vd ld) (h3 : SMapAt wr mb n f)
    (h4 : Below w.heap.size w wr) (h5 : w.heap.size ≤ p) (h6 : w.heap.size ≤ q) (h7 : w.heap.size ≤ mb) (h8 : ∀ k, vc.ownBlock = some k → w.heap.size ≤ k) (h9 : ∀ k, vd.ownBlock = some k → w.heap.size ≤ k) (hb : Behind q most vd ld' wr w') : Three w w' p q mb most lc ld' n f := by
  have c2 := Str.CacheAt.keepO h1 (fun b o hbo ⟨cs, e, fr, ho, he⟩ => keepI hb h2 hbo (by subst ho; show _ ∧ _; rcases he with rfl | rfl <;> decide))
  obtain ⟨es, clock, hm⟩ := h3.obj
  have c3 := h3.of_block ((keepI hb h2 hm trivial).trans hm.symm)
  obtain ⟨v', k1, k2, k3⟩ := hb
  exact ⟨vc, v', c2, k1, c3, Below.trans h4 (Moved.below k2 h4.size h6 h9), h5, h6, h7, h8, fun k hk => (k3 k hk).elim (h9 k) (Nat.le_trans h4.size)⟩
theorem Three.putS (h : Three w wr p q mb most lc ld n f) (hl : lc.length ≤ 1000000) (hm : 1 ≤ most) (k : ByteArray) (s : Int) :
    Calls Try.prog 16 #[.pointer (some ⟨p, 0, none⟩), .string k, .int .i64 s] wr fun e w' => e = .returned (.tuple #[.string (Str.putP most lc k s).2.1, .bool (Str.putP most lc k s).2.2.1, .int .i64 (Str.putP most lc k s).2.2.2]) ∧ Three w w' p q mb most (Str.putP most lc k s).1 ld n f := by
  obtain ⟨vc, vd, h1, h2, h3, h4, h5, h6, h7, h8, h9⟩ := h
  exact (Str.Put_c p most vc lc k s wr h1 hl hm).mono fun e w' ⟨he, hb⟩ => ⟨he, Three.stepS h1 h2 h3 h4 h5 h6 h7 h8 h9 hb⟩
theorem Three.getS (h : Three w wr p q mb most lc ld n f) (hl : lc.length ≤ 1000000) (k : ByteArray) :
    Calls Try.prog 18 #[.pointer (some ⟨p, 0, none⟩), .string k] wr fun e w' => e = .returned (.tuple #[.int .i64 (Str.getP lc k).2.1, .bool (Str.getP lc k).2.2]) ∧ Three w w' p q mb most (Str.getP lc k).1 ld n f := by
  obtain ⟨vc, vd, h1, h2, h3, h4, h5, h6, h7, h8, h9⟩ := h
  exact (Str.Get_c p most vc lc k wr h1 hl).mono fun e w' ⟨he, hb⟩ => ⟨he, Three.stepS h1 h2 h3 h4 h5 h6 h7 h8 h9 hb⟩
theorem Three.putI (h : Three w wr p q mb most lc ld n f) (hl : ld.length ≤ 1000000) (hm : 1 ≤ most) (k : Int) (s : ByteArray) :
    Calls Try.prog 11 #[.pointer (some ⟨q, 0, none⟩), .int .i64 k, .string s] wr fun e w' => e = .returned (.tuple #[.int .i64 (putP most ld k s).2.1, .bool (putP most ld k s).2.2.1, .int .i64 (putP most ld k s).2.2.2]) ∧ Three w w' p q mb most lc (putP most ld k s).1 n f := by
  obtain ⟨vc, vd, h1, h2, h3, h4, h5, h6, h7, h8, h9⟩ := h
  exact (Put_c q most vd ld k s wr h2 hl hm).mono fun e w' ⟨he, hb⟩ => ⟨he, Three.stepI h1 h2 h3 h4 h5 h6 h7 h8 h9 hb⟩
theorem Three.lenS (h : Three w wr p q mb most lc ld n f) : Calls Try.prog 17 #[.pointer (some ⟨p, 0, none⟩)] wr fun e w' => e = .returned (.int .i64 (lc.length : Int)) ∧ wr = w' := by
  obtain ⟨vc, vd, h1, -⟩ := h
  exact Str.Len_c p most vc lc wr h1
theorem Three.lenI (h : Three w wr p q mb most lc ld n f) : Calls Try.prog 14 #[.pointer (some ⟨q, 0, none⟩)] wr fun e w' => e = .returned (.int .i64 (ld.length : Int)) ∧ wr = w' := by
  obtain ⟨vc, vd, h1, h2, -⟩ := h
  exact Len_c q most vd ld wr h2
theorem Three.upd (h : Three w wr p q mb most lc ld n f) (hn : n < maxLen) (k : ByteArray) (s : Int) (hk : k.size ≤ maxLen) (hs : -9223372036854775808 ≤ s ∧ s ≤ 9223372036854775807) :
    ∃ w', (Instr.mapUpdate 44 (.map (some mb)) (.string k) (.int .i64 s)).run Try.prog wr = .ok () w' ∧ Three w w' p q mb most lc ld (n + 1) (fun x => if k = x then some s else f x) := by
  obtain ⟨vc, vd, h1, h2, h3, h4, h5, h6, h7, h8, h9⟩ := h
  obtain ⟨es, clock, hm⟩ := h3.obj
  obtain ⟨w', hrun, hm', hg⟩ := h3.upd hn k s hk hs
  have hkeep : ∀ (b : Nat) (cs : Array Value) (e : TypeId) (fr : Nat × Nat), wr.heap[b]? = some (.cells cs e fr) → w'.heap[b]? = some (.cells cs e fr) := fun b cs e fr hb => (hg.block b (heap_lt hb) (fun e => by
    cases e
    rw [hm] at hb
    cases hb)).trans hb
  exact ⟨w', hrun, vc, vd, Str.CacheAt.keepO h1 (fun b o hb ⟨cs, e, fr, ho, _⟩ => by subst ho; exact hkeep _ _ _ _ hb), h2.keepO (fun b o hb ⟨cs, e, fr, ho, _⟩ => by subst ho; exact hkeep _ _ _ _ hb), hm',
    Below.trans h4 ⟨hg.os, hg.tape, hg.output, hg.size, fun j hj => hg.block j (Nat.lt_of_lt_of_le hj h4.size) (fun e => by have := Option.some.inj e; omega)⟩, h5, h6, h7, h8, h9⟩
end
/-- A list of texts that is read. -/
def Texts (w : World) (v : Value) (l : List ByteArray) : Prop := ∃ p cap, v = .slice p l.length cap ∧ l.length ≤ maxLen ∧ (∀ x ∈ l, x.size ≤ maxLen) ∧ (0 < l.length → ∃ a, p = some a ∧ ∀ i (hi : i < l.length), w.cell? (a.add i) = some (.string l[i]))
theorem Texts.at {w : World} {v : Value} {l : List ByteArray} (h : Texts w v l) : ∃ p cap, v = .slice p l.length cap ∧ ∀ i (hi : i < l.length), ∃ b off, p = some ⟨b, off, none⟩ ∧ w.cell? ⟨b, off + i, none⟩ = some (.string l[i]) := by
  obtain ⟨p, cap, rfl, hl, hx, hc⟩ := h
  refine ⟨p, cap, rfl, fun i hi => ?_⟩
  obtain ⟨⟨b, off, sp⟩, e, H⟩ := hc (by omega)
  have f0 := H i hi
  have hsp : sp = none := by
    cases sp with
    | none => rfl
    | some q =>
      have f1 := H 0 (by omega)
      simp [World.cell?, Addr.add] at f1
      split at f1 <;> simp at f1
  subst hsp
  exact ⟨b, off, e, by rw [Addr.add_lit] at f0; exact f0⟩
set_option maxRecDepth 100000 in
theorem open_texts {H : Type} {enc : TypeId × Value → H} {w : World} {base : Nat} {spare : Nat → Bool} {held : Bool} {fuel : Nat} {cs : List Value} {x : DataW H × List MemPlace}
    (h : DataW.trod enc Try.prog w base spare held fuel 40 cs = some x) : ∃ l : List ByteArray, ∃ v, cs = [v] ∧ Texts w v l := by
  rcases Go.Deep.open_strs Try.underlying40 Try.underlying9 (by kernel_rfl) h with ⟨h0, -⟩ | ⟨a, len, cap, m, Sx, hcs, hb, hl, hm, hmm, hx, hi⟩
  · exact ⟨[], _, h0, none, 0, rfl, by simp, (fun x hx => by cases hx), fun h => by simp at h⟩
  · have hlm : len ≤ m := by rw [hmm]; split <;> omega
    refine ⟨(List.range len).map Sx, _, hcs, some a, cap, by simp, by simp; omega, ?_, fun h0 => ⟨a, rfl, fun i hi' => ?_⟩⟩
    · intro x hx
      obtain ⟨i, hi', rfl⟩ := List.mem_map.1 hx
      exact (hi i (by have := List.mem_range.1 hi'; omega)).2
    · have hi'' : i < len := by simpa using hi'
      rw [List.getElem_map, List.getElem_range]
      exact (hi i (by omega)).1
end Go.Proofs.Ytjccfodadiaokaa
