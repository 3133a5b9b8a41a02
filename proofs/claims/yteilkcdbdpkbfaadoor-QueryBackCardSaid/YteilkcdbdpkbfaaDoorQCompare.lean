/- A comparison is read. -/
import Derived.Test.YteilkcdbdpkbfaaDoorQNode
import Derived.Deep.QuietTactic
import Derived.Test.YteilkcdbdpkbfaaDoorTextTail
namespace Go.Proofs.YteilkcdbdpkbfaaDoor
open Go.RowKit
set_option linter.unusedVariables false
set_option linter.unusedSimpArgs false
attribute [local go_sem ↓ high] run_tok1 run_tok2
abbrev NodeZ : Obj := .cells #[.int .i64 0, .slice none 0 0, .string ⟨#[]⟩, .string ⟨#[]⟩, .int .i64 0] 24
/-- The reader's slice, as a cell told it. -/
theorem rd_cell {w : World} {rb fin deep : Nat} {v : Tok} {L : List Tok} (r : RdAt w rb fin deep (v :: L)) {b o N cap : Nat} (c : w.cell? ⟨rb, 0, none⟩ = some (.slice (some ⟨b, o, none⟩) N cap)) :
    N = L.length + 1 ∧ N ≤ cap ∧ ∀ sl, sl = Value.slice (if cap = 1 then some ⟨b, o, none⟩ else some ⟨b, o + 4, none⟩) (N - 1) (cap - 1) → RdAt (w.setCell ⟨rb, 0, none⟩ sl) rb fin deep L := by
  obtain ⟨p, cap1, hh, hc1, hc2, ht, hw⟩ := r
  rw [heap_cell hh] at c
  have c : some (Value.slice p (v :: L).length cap1) = some (Value.slice (some ⟨b, o, none⟩) N cap) := c
  simp only [Option.some.injEq, Value.slice.injEq] at c
  obtain ⟨hp, hn, hcap⟩ := c
  subst hp hcap
  obtain ⟨b1, o1, e1, hb, hne, ho, ht⟩ := ht (by simp)
  simp only [Option.some.injEq, Addr.mk.injEq] at e1
  obtain ⟨rfl, rfl, -⟩ := e1
  refine ⟨by rw [← hn]; simp, by rw [← hn]; exact hc1, fun sl hsl => ?_⟩
  exact (RdAt.tail hh hc1 hc2 hb hne ho ht hw sl (by rw [hsl, ← hn]; simp)).1
theorem if_neg_slice {c : Nat} (h : c ≠ 1) (a b : Option Addr) (n k : Nat) : Value.slice b n k = Value.slice (if c = 1 then a else b) n k := by rw [if_neg h]
theorem if_pos_slice {c n : Nat} (h : c = 1) (hn : n = 1) (a b : Option Addr) : Value.slice a 0 0 = Value.slice (if c = 1 then a else b) (n - 1) (c - 1) := by rw [if_pos h, h, hn]
theorem toList_inj {a b : ByteArray} (h : a.toList = b.toList) : a = b := by
  apply ByteArray.ext
  apply Array.ext'
  simpa [ByteArray.toList_eq] using h
theorem bEq_list : bEq.toList = [61] := by rw [ByteArray.toList_eq]; rfl
theorem bNe_list : bNe.toList = [33, 61] := by rw [ByteArray.toList_eq]; rfl
/-- The end of a comparison. -/
theorem compare_end {w w7 : World} {rb fin deep rs : Nat} {v : Tok} {L : List Tok} (g : w.grownBy w7 (some rb)) (r : RdAt w7 rb fin deep (v :: L)) (hR : w7.heap[rs]? = some NodeZ) (hrs : w.heap.size ≤ rs) (hne : rb < rs) {b o N cap : Nat} (c : w7.cell? ⟨rb, 0, none⟩ = some (.slice (some ⟨b, o, none⟩) N cap))
    (sl : Value) (hs : sl = Value.slice (if cap = 1 then some ⟨b, o, none⟩ else some ⟨b, o + 4, none⟩) (N - 1) (cap - 1)) (f s : ByteArray) (x : Int) :
    w.grownBy ((((((w7.setCell ⟨rb, 0, none⟩ sl).setCell ⟨rs, 0, none⟩ (.int .i64 4)).setCell ⟨rs, 1, none⟩ (.slice none 0 0)).setCell ⟨rs, 2, none⟩ (.string f)).setCell ⟨rs, 3, none⟩ (.string s)).setCell ⟨rs, 4, none⟩ (.int .i64 x)) (some rb) ∧
    ((((((w7.setCell ⟨rb, 0, none⟩ sl).setCell ⟨rs, 0, none⟩ (.int .i64 4)).setCell ⟨rs, 1, none⟩ (.slice none 0 0)).setCell ⟨rs, 2, none⟩ (.string f)).setCell ⟨rs, 3, none⟩ (.string s)).setCell ⟨rs, 4, none⟩ (.int .i64 x)).heap[rs]? = some (.cells #[.int .i64 4, .slice none 0 0, .string f, .string s, .int .i64 x] 24) ∧
    RdAt ((((((w7.setCell ⟨rb, 0, none⟩ sl).setCell ⟨rs, 0, none⟩ (.int .i64 4)).setCell ⟨rs, 1, none⟩ (.slice none 0 0)).setCell ⟨rs, 2, none⟩ (.string f)).setCell ⟨rs, 3, none⟩ (.string s)).setCell ⟨rs, 4, none⟩ (.int .i64 x)) rb fin deep L := by
  have g1 := Lib.grownBy_setB g 0 sl
  have h1 := heap_keep hR ⟨rb, 0, none⟩ sl (by simp; omega)
  have r1 := (rd_cell r c).2.2 sl hs
  refine ⟨?_, ?_, ?_⟩
  · exact grownBy_setNew (grownBy_setNew (grownBy_setNew (grownBy_setNew (grownBy_setNew g1 hrs 0 _) hrs 1 _) hrs 2 _) hrs 3 _) hrs 4 _
  · exact heap_set (heap_set (heap_set (heap_set (heap_set h1 0 _) 1 _) 2 _) 3 _) 4 _
  · exact ((((r1.setB hne 0 _).setB hne 1 _).setB hne 2 _).setB hne 3 _).setB hne 4 _
theorem cmp_ret {lo rb fin deep rs : Nat} {w W : World} {r : PR NodeR} {f s : ByteArray} {x : Int} {L : List Tok} {tm : Array Value} (ht : tm.getD 2 undef = .pointer (some ⟨rs, 0, none⟩)) (hp : r = .ok (.mk 4 [] f s x) L)
    (E : w.grownBy W (some rb) ∧ W.heap[rs]? = some (.cells #[.int .i64 4, .slice none 0 0, .string f, .string s, .int .i64 x] 24) ∧ RdAt W rb fin deep L) :
    bodyPost Tryd.prog Tryd.f83 (RdPost (NVal lo) rb fin deep r w) Exit.ret { tmps := tm, defers := [] } W := by
  subst hp
  exact bodyPost_ret (results_cellK (fn := Tryd.f83) (p := 2) rfl _ _ rs 24 _ (0, 0) _ ht E.2.1 Tryd.underlying24 rfl (by kernel_rfl)) rfl ⟨E.1, _, rfl, NodeR.In.leaf _ _ _ _ _ _, E.2.2⟩
theorem compareP_par (fin : Nat) {t : Tok} {L1 : List Tok} (hf : fieldB t.str = true) (h : (isT L1 bOpen || isT L1 bShut) = true) : compareP fin (t :: L1) = failP fin 41 L1 := by
  simp only [compareP, hf, h, if_true]
theorem compareP_mark (fin : Nat) {t : Tok} {L1 : List Tok} (hf : fieldB t.str = true) (h : (isT L1 bOpen || isT L1 bShut) = false) (hk : ∀ m R, L1 = m :: R → m.kind ≠ 3) : compareP fin (t :: L1) = failP fin 41 L1 := by
  simp only [compareP, hf, h, if_true]
  cases L1 with
  | nil => rfl
  | cons m R => simp [hk m R rfl]
theorem compareP_val (fin : Nat) {t m : Tok} {L2 : List Tok} (hf : fieldB t.str = true) (h : (isT (m :: L2) bOpen || isT (m :: L2) bShut) = false) (hm : m.kind = 3) (hk : ∀ v R, L2 = v :: R → v.kind = 3) : compareP fin (t :: m :: L2) = failP fin 41 L2 := by
  simp only [compareP, hf, h, if_true, hm]
  cases L2 with
  | nil => rfl
  | cons v R => simp [hk v R rfl]
theorem compareP_type (fin : Nat) {t m v : Tok} {L3 : List Tok} (hf : fieldB t.str = true) (h : (isT (m :: v :: L3) bOpen || isT (m :: v :: L3) bShut) = false) (hm : m.kind = 3) (hk : v.kind ≠ 3)
    (hb : namesB t.str ≠ (valueQ t.str v.str).2 ∨ ((valueQ t.str v.str).2 = false ∧ v.kind ≠ 2) ∨ ((valueQ t.str v.str).2 = true ∧ m.str ≠ bEq ∧ m.str ≠ bNe)) : compareP fin (t :: m :: v :: L3) = failP fin 43 (v :: L3) := by
  simp only [compareP, hf, h, if_true, hm, hk, if_false, if_pos hb]
  simp
theorem compareP_ok (fin : Nat) {t m v : Tok} {L3 : List Tok} (hf : fieldB t.str = true) (h : (isT (m :: v :: L3) bOpen || isT (m :: v :: L3) bShut) = false) (hm : m.kind = 3) (hk : v.kind ≠ 3)
    (hb : ¬(namesB t.str ≠ (valueQ t.str v.str).2 ∨ ((valueQ t.str v.str).2 = false ∧ v.kind ≠ 2) ∨ ((valueQ t.str v.str).2 = true ∧ m.str ≠ bEq ∧ m.str ≠ bNe))) :
    compareP fin (t :: m :: v :: L3) = .ok (.mk 4 [] t.str m.str (if (valueQ t.str v.str).2 = true then (valueQ t.str v.str).1 else v.num)) L3 := by
  simp only [compareP, hf, h, if_true, hm, hk, if_false, if_neg hb]
  simp
/-- No sign, or none of a field. -/
theorem compareNo_c (lo rb fin deep : Nat) (L : List Tok) (w : World) (h : RdAt w rb fin deep L) (hr : rb < lo) (hlo : lo ≤ w.heap.size) (hL : ∀ t R, L = t :: R → fieldB t.str = false) :
    Calls Tryd.prog 83 #[.pointer (some ⟨rb, 0, none⟩)] w (RdPost (NVal lo) rb fin deep (failP fin 41 L) w) := by
  have h0 := hid h
  have hrb : rb < w.heap.size := by omega
  have H : ∀ w1, Grow w w1 → RdPost (α := NodeR) (NVal lo) rb fin deep (failP fin 41 L) w (Fault (failE 41 L) (failAt fin L)) w1 := fun w1 g => ⟨g.by_ _, rfl, (h0.out.grow g).any⟩
  replace H := hid H
  obtain ⟨p, cap, hh, hc1, hc2, ht, hw⟩ := h
  cases L with
  | nil =>
    have c0 : w.cell? ⟨rb, 0, none⟩ = some (.slice p 0 cap) := by rw [heap_cell hh]; rfl
    clear hh hc1 hc2 ht hw
    go_enter Tryd.func83, Tryd.ntmps83
    go_wp2_with (go_at_call 47; refine (fail_c 41 rb fin deep [] _ (h0.out.grow (Grow.alloc _ _))).mono ?_; rintro e w1 ⟨rfl, rfl⟩; unfold Fault)
    exact ⟨rfl, H.out _ (Grow.alloc _ _)⟩
  | cons t R =>
    have hf := hL t R rfl
    obtain ⟨b, o, rfl, hb, hne, ho, ht⟩ := ht (by simp)
    have c0 : w.cell? ⟨rb, 0, none⟩ = some (.slice (some ⟨b, o, none⟩) (t :: R).length cap) := by rw [heap_cell hh]; rfl
    have hl0 : (0 : Int) < ((t :: R).length : Int) := by simp
    have hlz : (((t :: R).length : Int) == 0) = false := by simp; omega
    obtain ⟨⟨t0, t1, t2, t3⟩, -⟩ := ht
    have HF := hid (field_c t.str (w.alloc NodeZ))
    rw [hf] at HF
    clear hc1 hc2 ho hh hw hL
    generalize (t :: R).length = n at *
    go_enter Tryd.func83, Tryd.ntmps83
    go_wp2_with (first
      | (go_at_call 46; refine (HF.out).mono ?_; rintro e w1 ⟨rfl, g1⟩)
      | (go_at_call 47; refine (fail_c 41 rb fin deep (t :: R) _ (h0.out.grow (Grow.trans (Grow.alloc _ _) g1))).mono ?_; rintro e w2 ⟨rfl, rfl⟩; unfold Fault))
    exact ⟨rfl, H.out _ (Grow.trans (Grow.alloc _ _) g1)⟩
/-- A field is a word. -/
theorem field_word {t : Tok} (ht : t.Ok) (hf : fieldB t.str = true) : t.kind = 1 := by
  apply ht.2.2.1
  have h := (Lib.containsS_iff _ _).1 hf
  have e : ∀ b : ByteArray, t.str = b → t.text = b.data.toList := by
    rintro b rfl
    simp [Tok.str]
  simp only [fieldNames, List.mem_cons, List.mem_nil_iff, or_false] at h
  rcases h with h | h | h | h | h | h | h | h | h | h | h <;> (rw [e _ h]; decide)
/-- One sign is taken. -/
theorem takeOk_c {t : Tok} {R : List Tok} {k : Nat} (hk : t.kind = k) (rb fin deep : Nat) (w : World) (h : RdAt w rb fin deep (t :: R)) :
    Calls Tryd.prog 48 #[.pointer (some ⟨rb, 0, none⟩), .int .i64 (k : Int)] w fun e w' => w.grownBy w' (some rb) ∧ e = .returned (.agg #[.int .i64 (k : Int), .string t.str, .int .i64 t.num, .int .i64 (t.pos : Int)]) ∧ RdAt w' rb fin deep R := by
  refine (take_c k rb fin deep _ w h).mono ?_
  rw [show takeP fin k (t :: R) = .ok t R from if_pos hk]
  rintro e w' ⟨g, v, rfl, hv, r⟩
  refine ⟨g, ?_, r⟩
  rw [show v = tokV t from hv, ← hk]
  rfl
theorem takeBad_c {L : List Tok} {k : Nat} (hk : ∀ t R, L = t :: R → t.kind ≠ k) (rb fin deep : Nat) (w : World) (h : RdAt w rb fin deep L) :
    Calls Tryd.prog 48 #[.pointer (some ⟨rb, 0, none⟩), .int .i64 (k : Int)] w fun e w' => w.grownBy w' (some rb) ∧ e = Fault (failE 41 L) (failAt fin L) ∧ RdAny w' rb := by
  refine (take_c k rb fin deep _ w h).mono ?_
  rw [show takeP fin k L = failP fin 41 L from by cases L with | nil => rfl | cons t R => exact if_neg (hk t R rfl)]
  rintro e w' ⟨g, rfl, r⟩
  exact ⟨g, rfl, r⟩
theorem failIs_c (k : Nat) (rb fin deep : Nat) (L : List Tok) (w : World) (h : RdAt w rb fin deep L) :
    Calls Tryd.prog 47 #[.pointer (some ⟨rb, 0, none⟩), .int .i64 (k : Int)] w fun e w' => e = Fault (failE k L) (failAt fin L) ∧ w = w' := fail_c k rb fin deep L w h
set_option maxRecDepth 100000 in
set_option maxHeartbeats 4000000 in
/-- Behind the field. -/
theorem compareYes_c (lo rb fin deep : Nat) (t : Tok) (L1 : List Tok) (w : World) (h : RdAt w rb fin deep (t :: L1)) (hr : rb < lo) (hlo : lo ≤ w.heap.size) (hf : fieldB t.str = true) :
    Calls Tryd.prog 83 #[.pointer (some ⟨rb, 0, none⟩)] w (RdPost (NVal lo) rb fin deep (compareP fin (t :: L1)) w) := by
  have hrb : rb < w.heap.size := by omega
  have h0 := hid h
  obtain ⟨p, cap, hh, hc1, hc2, ht, hw⟩ := h
  obtain ⟨b, o, rfl, hb, hne, ho, ht⟩ := ht (by simp)
  have hk1 := hid (takeOk_c (R := L1) (field_word (hw t (by simp)) hf) rb fin deep)
  have c0 : w.cell? ⟨rb, 0, none⟩ = some (.slice (some ⟨b, o, none⟩) (t :: L1).length cap) := by rw [heap_cell hh]; rfl
  have hl0 : (0 : Int) < ((t :: L1).length : Int) := by simp only [List.length_cons]; omega
  have hlz : (((t :: L1).length : Int) == 0) = false := by simp; omega
  obtain ⟨⟨t0, t1, t2, t3⟩, -⟩ := ht
  have HF := hid (field_c t.str (w.alloc NodeZ))
  rw [hf] at HF
  have HG := hid hf
  clear hc1 hc2 ho hh hw hf
  generalize (t :: L1).length = n at *
  go_enter Tryd.func83, Tryd.ntmps83
  go_wp2_with (first
    | (go_at_call 46; refine (HF.out).mono ?_; rintro e w1 ⟨rfl, g1⟩)
    | (go_at_call 48; refine (hk1.out _ (h0.out.grow (Grow.trans (Grow.alloc _ _) g1))).mono ?_; rintro e w2 ⟨g2, rfl, r2⟩; replace r2 := hid r2; replace g2 := hid g2; have s1 := g1.size; rw [World.size_alloc] at s1; have s2 := g2.out.size)
    | fail)
  clear c0 t0 t1 t2 t3 hl0 hlz hne hb
  have hB3 := heap_new w2 (.cells #[.int .i64 4, .slice none 0 0, .string t.str, .string ⟨#[]⟩, .int .i64 0] 24)
  have hR3 := heap_alloc_keep (heapBy g2.out ((g1.block _ (by simp)).trans (heap_new w NodeZ)) (by omega)) (.cells #[.int .i64 4, .slice none 0 0, .string t.str, .string ⟨#[]⟩, .int .i64 0] 24)
  have G3 := hid (Lib.grownBy_below (Lib.grownBy_trans ((Grow.trans (Grow.alloc w NodeZ) g1).by_ _) g2.out) (Grow.alloc w2 (.cells #[.int .i64 4, .slice none 0 0, .string t.str, .string ⟨#[]⟩, .int .i64 0] 24)))
  have r3 := hid (r2.out.grow (Grow.alloc w2 (.cells #[.int .i64 4, .slice none 0 0, .string t.str, .string ⟨#[]⟩, .int .i64 0] 24)))
  have n1 : w.heap.size ≠ w2.heap.size := by omega
  have n2 : w2.heap.size ≠ rb := by omega
  have n3 : w.heap.size ≠ rb := by omega
  have n4 : w.heap.size < w2.heap.size := by omega
  have n5 := hid (heap_lt hB3)
  clear g1 g2 r2 s1 s2 hk1 HF
  replace hB3 := hid hB3
  replace hR3 := hid hR3
  generalize w2.alloc (.cells #[.int .i64 4, .slice none 0 0, .string t.str, .string ⟨#[]⟩, .int .i64 0] 24) = w3 at *
  generalize w2.heap.size = nb at *
  generalize hrs1 : w.heap.size = rs at *
  have hws : w.heap.size ≤ rs := Nat.le_of_eq hrs1
  clear hrs1
  go_at_call 57
  refine (is_c bOpen rb fin deep L1 w3 r3.out).mono ?_
  rintro e w3' ⟨rfl, rfl⟩
  have FAIL := hid (fun (k : Nat) (L : List Tok) (w' : World) (hg : w.grownBy w' (some rb)) (hr : RdAt w' rb fin deep L) => (failIs_c k rb fin deep L w' hr).mono (R' := fun e w'' => e = Fault (failE k L) (failAt fin L) ∧ RdPost (α := NodeR) (NVal lo) rb fin deep (failP fin k L) w (Fault (failE k L) (failAt fin L)) w'') (fun e w'' he => ⟨he.1, by rw [← he.2]; exact ⟨hg, rfl, hr.any⟩⟩))
  by_cases hp : isT L1 bOpen = true
  · have HC := hid (compareP_par fin HG.out (L1 := L1) (by rw [hp]; rfl))
    rw [hp]
    clear hp
    go_wp2_with (first
      | (go_at_call 47; refine (FAIL.out 41 L1 _ G3.out r3.out).mono ?_; rintro e w4 ⟨rfl, h4⟩; unfold Fault; replace h4 := hid h4)
      | fail)
    exact ⟨rfl, by rw [HC.out]; exact h4.out⟩
  replace hp : isT L1 bOpen = false := by simpa using hp
  rw [hp]
  replace hp := hid hp
  go_wp2_with fail
  refine (is_c bShut rb fin deep L1 w3 r3.out).mono ?_
  rintro e w3' ⟨rfl, rfl⟩
  by_cases hq : isT L1 bShut = true
  · have HC := hid (compareP_par fin HG.out (L1 := L1) (by rw [hp.out, hq]; rfl))
    rw [hq]
    clear hq
    go_wp2_with (first
      | (go_at_call 47; refine (FAIL.out 41 L1 _ G3.out r3.out).mono ?_; rintro e w4 ⟨rfl, h4⟩; unfold Fault; replace h4 := hid h4)
      | fail)
    exact ⟨rfl, by rw [HC.out]; exact h4.out⟩
  replace hq : isT L1 bShut = false := by simpa using hq
  rw [hq]
  replace hq := hid hq
  have hpq := hid (show (isT L1 bOpen || isT L1 bShut) = false by rw [hp.out, hq.out]; rfl)
  clear hp hq
  go_wp2_with fail
  by_cases hm : ∀ m R, L1 = m :: R → m.kind ≠ 3
  · have HC := hid (compareP_mark fin HG.out hpq.out hm)
    refine (takeBad_c hm rb fin deep w3 r3.out).mono ?_
    rintro e w4 ⟨g4, rfl, r4⟩
    unfold Fault
    have H4 := hid (show RdPost (α := NodeR) (NVal lo) rb fin deep (failP fin 41 L1) w (Fault (failE 41 L1) (failAt fin L1)) w4 from ⟨Lib.grownBy_trans G3.out g4, rfl, r4⟩)
    clear g4 r4
    go_wp2_with fail
    exact ⟨rfl, by rw [HC.out]; exact H4.out⟩
  obtain ⟨m, L2, rfl, hm3⟩ : ∃ m L2, L1 = m :: L2 ∧ m.kind = 3 := by
    cases L1 with
    | nil => exact absurd (fun m R h => by cases h) hm
    | cons m R => exact ⟨m, R, rfl, by
        by_cases h : m.kind = 3
        · exact h
        · exact absurd (fun m' R' e => by cases e; exact h) hm⟩
  clear hm
  refine (takeOk_c hm3 rb fin deep w3 r3.out).mono ?_
  rintro e w4 ⟨g4, rfl, r4⟩
  have hB4 := heapBy g4 hB3.out n2
  have hR4 := heapBy g4 hR3.out n3
  have G4 := hid (Lib.grownBy_trans G3.out g4)
  have b1 : w4.cell? ⟨nb, 3, none⟩ = some (.string ⟨#[]⟩) := by rw [heap_cell hB4]; rfl
  have f1 : w4.frozen? ⟨nb, 3, none⟩ = false := heap_frozen hB4 3 (by omega)
  have n6 := hid (heap_lt hB4)
  replace hB4 := hid hB4
  replace hR4 := hid hR4
  have r5 := hid (r4.setB (g := nb) (by omega) 3 (.string m.str))
  have G5 := hid (grownBy_setNew G4.out (g := nb) (by omega) 3 (.string m.str))
  have n7 : rb ≠ nb := by omega
  clear hB3 hR3 g4 G3 r3 n5
  obtain ⟨p4, cap4, hh4, hc4, hd4, ht4, hw4⟩ := r4
  have c4 : w4.cell? ⟨rb, 0, none⟩ = some (.slice p4 L2.length cap4) := by rw [heap_cell hh4]; rfl
  by_cases hv : ∀ v R, L2 = v :: R → v.kind = 3
  · have HC := hid (compareP_val fin HG.out hpq.out hm3 hv)
    replace hm3 := hid hm3
    cases L2 with
    | nil =>
      clear hh4 hc4 hd4 ht4 hw4 hv
      go_wp2_with (first
        | (go_at_call 47; refine (FAIL.out 41 [] _ G5.out r5.out).mono ?_; rintro e w6 ⟨rfl, h6⟩; unfold Fault; replace h6 := hid h6)
        | fail)
      exact ⟨rfl, by rw [HC.out]; exact h6.out⟩
    | cons v R =>
      have hvk := hv v R rfl
      obtain ⟨b4, o4, rfl, hb4, hne4, ho4, ⟨t0, t1, t2, t3⟩, -⟩ := ht4 (by simp)
      rw [hvk] at t0
      have hl0 : (0 : Int) < ((v :: R).length : Int) := by simp only [List.length_cons]; omega
      have hlz : (((v :: R).length : Int) == 0) = false := by simp; omega
      have n8 : b4 ≠ nb := by omega
      replace hvk := hid hvk
      clear hh4 hc4 hd4 hw4 hv ho4
      generalize (v :: R).length = n4 at *
      go_wp2_with (first
        | (go_at_call 47; refine (FAIL.out 41 (v :: R) _ G5.out r5.out).mono ?_; rintro e w6 ⟨rfl, h6⟩; unfold Fault; replace h6 := hid h6)
        | fail)
      exact ⟨rfl, by rw [HC.out]; exact h6.out⟩
  obtain ⟨v, L3, rfl, hvk⟩ : ∃ v L3, L2 = v :: L3 ∧ v.kind ≠ 3 := by
    cases L2 with
    | nil => exact absurd (fun m R h => by cases h) hv
    | cons m R => exact ⟨m, R, rfl, fun h => hv (fun m' R' e => by cases e; exact h)⟩
  clear hv
  obtain ⟨b4, o4, rfl, hb4, hne4, ho4, ⟨t0, t1, t2, t3⟩, -⟩ := ht4 (by simp)
  have hl0 : (0 : Int) < ((v :: L3).length : Int) := by simp only [List.length_cons]; omega
  have hlz : (((v :: L3).length : Int) == 0) = false := by simp; omega
  have hln : 0 < (v :: L3).length := by simp
  have n8 : b4 ≠ nb := by omega
  have k3 : ((v.kind : Int) == 3) = false := by simp; omega
  replace hm3 := hid hm3
  replace hvk := hid hvk
  have b2 : w4.cell? ⟨nb, 2, none⟩ = some (.string t.str) := by rw [heap_cell hB4.out]; rfl
  clear hh4 hc4 hd4 hw4 ho4 ht4
  generalize (v :: L3).length = N4 at *
  have hB5 := heap_set hB4.out 3 (.string m.str)
  have hR5 := heap_keep hR4.out ⟨nb, 3, none⟩ (.string m.str) (by simpa using n1)
  have b5 : (w4.setCell ⟨nb, 3, none⟩ (.string m.str)).cell? ⟨nb, 2, none⟩ = some (.string t.str) := by rw [heap_cell hB5]; rfl
  have c5 : (w4.setCell ⟨nb, 3, none⟩ (.string m.str)).cell? ⟨rb, 0, none⟩ = some (.slice (some ⟨b4, o4, none⟩) N4 cap4) := by go_simp
  have t51 : (w4.setCell ⟨nb, 3, none⟩ (.string m.str)).cell? ⟨b4, o4 + 1, none⟩ = some (.string v.str) := by go_simp
  have t50 : (w4.setCell ⟨nb, 3, none⟩ (.string m.str)).cell? ⟨b4, o4, none⟩ = some (.int .i64 (v.kind : Int)) := by go_simp
  have t52 : (w4.setCell ⟨nb, 3, none⟩ (.string m.str)).cell? ⟨b4, o4 + 2, none⟩ = some (.int .i64 v.num) := by go_simp
  replace hB5 := hid hB5
  replace hR5 := hid hR5
  go_wp2_with fail
  generalize w4.setCell ⟨nb, 3, none⟩ (.string m.str) = w5 at *
  refine wp_region_text 9 (by kernel_rfl) (by kernel_rfl) ?_
  simp only [List.take_succ_cons, List.take_zero, List.drop_succ_cons, List.drop_zero]
  repeat still_step
  refine wpStill_nil ?_
  change wpList _ _ _ _ _ (World.drew _)
  go_wp2_with fail
  refine (valueOf_c t.str v.str _).mono ?_
  rintro e w6 ⟨rfl, g6⟩
  have G6 := hid (Grow.trans (Grow.drew _) g6)
  have hB6 := G6.out.heap hB5.out
  have hR6 := hid (G6.out.heap hR5.out)
  have r6 := hid (r5.out.grow G6.out)
  have GG6 := hid (Lib.grownBy_below G5.out G6.out)
  replace b5 : w6.cell? ⟨nb, 2, none⟩ = some (.string t.str) := by rw [heap_cell hB6]; rfl
  have b53 : w6.cell? ⟨nb, 3, none⟩ = some (.string m.str) := by rw [heap_cell hB6]; rfl
  have b50 : w6.cell? ⟨nb, 0, none⟩ = some (.int .i64 4) := by rw [heap_cell hB6]; rfl
  have b51 : w6.cell? ⟨nb, 1, none⟩ = some (.slice none 0 0) := by rw [heap_cell hB6]; rfl
  have z0 : w6.cell? ⟨rs, 0, none⟩ = some (.int .i64 0) := by rw [heap_cell hR6.out]; rfl
  have z1 : w6.cell? ⟨rs, 1, none⟩ = some (.slice none 0 0) := by rw [heap_cell hR6.out]; rfl
  have z2 : w6.cell? ⟨rs, 2, none⟩ = some (.string ⟨#[]⟩) := by rw [heap_cell hR6.out]; rfl
  have z3 : w6.cell? ⟨rs, 3, none⟩ = some (.string ⟨#[]⟩) := by rw [heap_cell hR6.out]; rfl
  have z4 : w6.cell? ⟨rs, 4, none⟩ = some (.int .i64 0) := by rw [heap_cell hR6.out]; rfl
  have y0 : w6.frozen? ⟨rs, 0, none⟩ = false := heap_frozen hR6.out 0 (by omega)
  have y1 : w6.frozen? ⟨rs, 1, none⟩ = false := heap_frozen hR6.out 1 (by omega)
  have y2 : w6.frozen? ⟨rs, 2, none⟩ = false := heap_frozen hR6.out 2 (by omega)
  have y3 : w6.frozen? ⟨rs, 3, none⟩ = false := heap_frozen hR6.out 3 (by omega)
  have y4 : w6.frozen? ⟨rs, 4, none⟩ = false := heap_frozen hR6.out 4 (by omega)
  have x0 : w6.frozen? ⟨rb, 0, none⟩ = false := by obtain ⟨_, _, hx, _⟩ := r6.out; exact heap_frozen hx 0 (by omega)
  have b54 : w6.cell? ⟨nb, 4, none⟩ = some (.int .i64 0) := by rw [heap_cell hB6]; rfl
  have f54 : w6.frozen? ⟨nb, 4, none⟩ = false := heap_frozen hB6 4 (by omega)
  replace hB6 := hid hB6
  replace c5 := G6.out.cell c5
  replace t50 := G6.out.cell t50
  replace t51 := G6.out.cell t51
  replace t52 := G6.out.cell t52
  clear g6 c4 t0 t1 t2 t3 hb4 b1 f1 b2 G5 r5 hB5 hR5 hB4 hR4 G4 n6
  generalize hvq : valueQ t.str v.str = vq at *
  obtain ⟨vx, ok⟩ := vq
  replace hvq := hid hvq
  generalize hnb : namesB t.str = nm at *
  have HN := hid (fun w' => names_c t.str w')
  rw [hnb] at HN
  replace hnb := hid hnb
  go_wp2_with fail
  unfold calm
  go_wp2_with fail
  by_cases hbad : nm ≠ ok ∨ (ok = false ∧ v.kind ≠ 2) ∨ (ok = true ∧ m.str ≠ bEq ∧ m.str ≠ bNe)
  · have HC := hid (compareP_type fin HG.out hpq.out hm3.out hvk.out (by rw [hnb.out, hvq.out]; exact hbad))
    have hways : (nm = !ok) ∨ (nm = false ∧ ok = false ∧ ((v.kind : Int) != 2) = true) ∨ (nm = true ∧ ok = true ∧ (m.str.toList == [61]) = false ∧ (m.str.toList == [33, 61]) = false) := by
      have ne1 : m.str ≠ bEq → (m.str.toList == [61]) = false := fun h => by simpa using fun e => h (toList_inj (e.trans bEq_list.symm))
      have ne2 : m.str ≠ bNe → (m.str.toList == [33, 61]) = false := fun h => by simpa using fun e => h (toList_inj (e.trans bNe_list.symm))
      rcases hbad with h | ⟨h1, h2⟩ | ⟨h1, h2, h3⟩
      · left; revert h; cases nm <;> cases ok <;> simp
      · subst h1
        cases nm
        · right; left; exact ⟨rfl, rfl, by simpa using fun e => h2 (by omega)⟩
        · left; rfl
      · subst h1
        cases nm
        · left; rfl
        · right; right; exact ⟨rfl, rfl, ne1 h2, ne2 h3⟩
    refine (HN.out _).mono ?_
    rintro e w7 ⟨rfl, rfl⟩
    rcases hways with rfl | ⟨rfl, rfl, k2⟩ | ⟨rfl, rfl, e1, e2⟩
    · cases ok
      all_goals
        go_wp2_with (first
          | (go_at_call 47; refine (FAIL.out 43 (v :: L3) _ GG6.out r6.out).mono ?_; rintro e w7 ⟨rfl, h7⟩; unfold Fault; replace h7 := hid h7)
          | fail)
        exact ⟨rfl, by rw [HC.out]; exact h7.out⟩
    · go_wp2_with (first
          | (go_at_call 47; refine (FAIL.out 43 (v :: L3) _ GG6.out r6.out).mono ?_; rintro e w7 ⟨rfl, h7⟩; unfold Fault; replace h7 := hid h7)
          | fail)
      exact ⟨rfl, by rw [HC.out]; exact h7.out⟩
    · have e3 : ¬m.str.toList = [61] := by simpa using e1
      have e4 : ¬m.str.toList = [33, 61] := by simpa using e2
      go_wp2_with (first
          | (go_at_call 47; refine (FAIL.out 43 (v :: L3) _ GG6.out r6.out).mono ?_; rintro e w7 ⟨rfl, h7⟩; unfold Fault; replace h7 := hid h7)
          | fail)
      exact ⟨rfl, by rw [HC.out]; exact h7.out⟩
  · have HC := hid (compareP_ok fin HG.out hpq.out hm3.out hvk.out (by rw [hnb.out, hvq.out]; exact hbad))
    have hways : (nm = false ∧ ok = false ∧ ((v.kind : Int) != 2) = false) ∨ (nm = true ∧ ok = true ∧ ((m.str.toList == [61]) = true ∧ m.str.toList = [61] ∨ (m.str.toList == [61]) = false ∧ ¬m.str.toList = [61] ∧ (m.str.toList == [33, 61]) = true ∧ m.str.toList = [33, 61])) := by
      have q := hbad
      simp only [not_or, not_and, Decidable.not_not, ne_eq] at q
      obtain ⟨q1, q2, q3⟩ := q
      subst q1
      cases nm
      · left
        exact ⟨rfl, rfl, by have := q2 rfl; simp [this]⟩
      · right
        refine ⟨rfl, rfl, ?_⟩
        by_cases h : m.str = bEq
        · left; rw [h, bEq_list]; exact ⟨rfl, rfl⟩
        · right
          have h2 := q3 rfl h
          rw [h2, bNe_list]
          exact ⟨by decide, by decide, rfl, rfl⟩
    rw [hvq.out] at HC
    obtain ⟨hN, hNc, -⟩ := rd_cell r6.out c5
    have q1 : (1 : Int) ≤ (N4 : Int) := by omega
    have q2 : (N4 : Int) ≤ (cap4 : Int) := by omega
    replace hN := hid hN
    have END := hid (fun (w7 : World) (a1 : w.grownBy w7 (some rb)) (a2 : RdAt w7 rb fin deep (v :: L3)) (a3 : w7.heap[rs]? = some NodeZ) (a4 : w7.cell? ⟨rb, 0, none⟩ = some (.slice (some ⟨b4, o4, none⟩) N4 cap4)) => compare_end a1 a2 a3 hws hrb a4)
    have GG7 := hid (fun x => grownBy_setNew GG6.out (g := nb) (by omega) 4 x)
    have r7 := hid (fun x => r6.out.setB (g := nb) (by omega) 4 x)
    have hR7 := hid (fun x => heap_keep hR6.out ⟨nb, 4, none⟩ x (by simpa using n1))
    have c7 := hid (fun x => show (w6.setCell ⟨nb, 4, none⟩ x).cell? ⟨rb, 0, none⟩ = some (.slice (some ⟨b4, o4, none⟩) N4 cap4) by go_simp)
    have E8 := hid (fun (x y : Value) => END.out ((w6.setCell ⟨nb, 4, none⟩ x).setCell ⟨nb, 4, none⟩ y) (grownBy_setNew (GG7.out x) (g := nb) (by omega) 4 y) ((r7.out x).setB (g := nb) (by omega) 4 y) (heap_keep (hR7.out x) ⟨nb, 4, none⟩ y (by simpa using n1)) (by
      have := c7.out x
      go_simp))
    have hcs : (cap4 = 1 ∧ Hid (N4 = 1)) ∨ cap4 ≠ 1 := by
      by_cases h : cap4 = 1
      · exact .inl ⟨h, hid (by omega)⟩
      · exact .inr h
    refine (HN.out _).mono ?_
    rintro e w7 ⟨rfl, rfl⟩
    rcases hways with ⟨rfl, rfl, k2⟩ | ⟨rfl, rfl, e1⟩
    · rw [if_neg (by simp)] at HC
      rcases hcs with ⟨rfl, hN1⟩ | hcs
      · go_wp2_with fail
        have E := END.out _ (GG7.out (.int .i64 v.num)) (r7.out (.int .i64 v.num)) (hR7.out (.int .i64 v.num)) (c7.out (.int .i64 v.num)) (.slice (some ⟨b4, o4, none⟩) 0 0) (if_pos_slice rfl hN1.out _ (some ⟨b4, o4 + 4, none⟩)) t.str m.str v.num
        have hC := HC.out
        with_reducible refine cmp_ret ?_ hC E
        rfl
      · go_wp2_with fail
        have E := END.out _ (GG7.out (.int .i64 v.num)) (r7.out (.int .i64 v.num)) (hR7.out (.int .i64 v.num)) (c7.out (.int .i64 v.num)) (.slice (some ⟨b4, o4 + 4, none⟩) (N4 - 1) (cap4 - 1)) (if_neg_slice hcs _ _ _ _) t.str m.str v.num
        have hC := HC.out
        with_reducible refine cmp_ret ?_ hC E
        rfl
    · rw [if_pos rfl] at HC
      rcases e1 with ⟨e1, e2⟩ | ⟨e1, e2, e3, e4⟩
      all_goals
        rcases hcs with ⟨rfl, hN1⟩ | hcs
        · go_wp2_with fail
          have E := E8.out (.int .i64 v.num) (.int .i64 vx) (.slice (some ⟨b4, o4, none⟩) 0 0) (if_pos_slice rfl hN1.out _ (some ⟨b4, o4 + 4, none⟩)) t.str m.str vx
          have hC := HC.out
          with_reducible refine cmp_ret ?_ hC E
          rfl
        · go_wp2_with fail
          have E := E8.out (.int .i64 v.num) (.int .i64 vx) (.slice (some ⟨b4, o4 + 4, none⟩) (N4 - 1) (cap4 - 1)) (if_neg_slice hcs _ _ _ _) t.str m.str vx
          have hC := HC.out
          with_reducible refine cmp_ret ?_ hC E
          rfl
/-- A comparison is read. -/
theorem compare_c (lo rb fin deep : Nat) (L : List Tok) (w : World) (h : RdAt w rb fin deep L) (hr : rb < lo) (hlo : lo ≤ w.heap.size) :
    Calls Tryd.prog 83 #[.pointer (some ⟨rb, 0, none⟩)] w (RdPost (NVal lo) rb fin deep (compareP fin L) w) := by
  cases L with
  | nil =>
    have := compareNo_c lo rb fin deep [] w h hr hlo (fun t R e => by cases e)
    exact this
  | cons t L1 =>
    by_cases hf : fieldB t.str = true
    · exact compareYes_c lo rb fin deep t L1 w h hr hlo hf
    · have hf : fieldB t.str = false := by simpa using hf
      have := compareNo_c lo rb fin deep (t :: L1) w h hr hlo (fun t' R e => by cases e; exact hf)
      rw [show compareP fin (t :: L1) = failP fin 41 (t :: L1) from by simp [compareP, hf]]
      exact this
end Go.Proofs.YteilkcdbdpkbfaaDoor
