/- The reader in memory: the signs that are left, the end, how deep. -/
import Derived.Test.YteilkcdbdpkbfaaDoorQPlain
import Derived.Lib.BufferOwn
namespace Go.Proofs.YteilkcdbdpkbfaaDoor
open Go.RowKit
set_option linter.unusedVariables false
set_option linter.unusedSimpArgs false
theorem heap_newAt (w : World) (o : Obj) {g : Nat} (h : g = w.heap.size) : (w.alloc o).heap[g]? = some o := by
  subst h
  exact heap_new w o
theorem results_cellK {P : Program} {fn : Func} {p : Tmp} {ty : TypeId} (h : fn.results = #[.cell p ty]) (tmps : Array Value) (w : World) (g : Nat) (t : TypeId) (cs : Array Value) (fr : Nat × Nat) (d : TypeDesc)
    (hp : tmps.getD p undef = .pointer (some ⟨g, 0, none⟩)) (hg : w.heap[g]? = some (.cells cs t fr))
    (hu : P.underlying ty = some d) (hd : (match d with | .struct _ | .array _ _ => true | _ => false) = true) (hi : (P.info? ty).map (·.size) = some cs.size) :
    (results fn tmps).run P w = .ok (.agg cs) w := by
  have hp' : tmps[p]?.getD undef = .pointer (some ⟨g, 0, none⟩) := by simpa using hp
  simp [results, h, hp', asAddr, Result.andThen, run_loadVar_row w g t ty cs fr d hg hu hd hi]
def TokAt (w : World) (b o : Nat) (t : Tok) : Prop := w.cell? ⟨b, o, none⟩ = some (.int .i64 (t.kind : Int)) ∧ w.cell? ⟨b, o + 1, none⟩ = some (.string t.str) ∧
    w.cell? ⟨b, o + 2, none⟩ = some (.int .i64 t.num) ∧ w.cell? ⟨b, o + 3, none⟩ = some (.int .i64 (t.pos : Int))
def TokRow (w : World) (b : Nat) : Nat → List Tok → Prop
  | _, [] => True
  | o, t :: L => TokAt w b o t ∧ TokRow w b (o + 4) L
/-- A sign as the scanner makes it. -/
def Tok.Ok (t : Tok) : Prop := (t.kind = 1 ∨ t.kind = 2 ∨ t.kind = 3) ∧ t.text ≠ [] ∧ (isLet (t.text.headD 0) = true → t.kind = 1) ∧ t.text.length ≤ 4096 ∧ -1099511627776 ≤ t.num ∧ t.num ≤ 1099511627776 ∧ t.pos ≤ 4096
/-- The reader's block and the signs' block. -/
def RdAt (w : World) (rb fin deep : Nat) (L : List Tok) : Prop := ∃ p cap, w.heap[rb]? = some (.cells #[.slice p L.length cap, .int .i64 (fin : Int), .int .i64 (deep : Int)] 67) ∧ L.length ≤ cap ∧ L.length ≤ 4096 ∧
  (L ≠ [] → ∃ b o, p = some ⟨b, o, none⟩ ∧ b < w.heap.size ∧ b < rb ∧ o + 4 * L.length ≤ 20000 ∧ TokRow w b o L) ∧ ∀ t ∈ L, t.Ok
theorem TokAt.grown {w w' : World} {b o : Nat} {t : Tok} {rb : Nat} (h : TokAt w b o t) (hg : w.grownBy w' (some rb)) (hne : b ≠ rb) : TokAt w' b o t :=
  ⟨hg.cell h.1 (by simp [hne]), hg.cell h.2.1 (by simp [hne]), hg.cell h.2.2.1 (by simp [hne]), hg.cell h.2.2.2 (by simp [hne])⟩
theorem TokRow.grown {w w' : World} {b : Nat} {rb : Nat} (hg : w.grownBy w' (some rb)) (hne : b ≠ rb) : ∀ (o : Nat) (L : List Tok), TokRow w b o L → TokRow w' b o L
  | _, [], _ => trivial
  | o, t :: L, h => ⟨h.1.grown hg hne, TokRow.grown hg hne _ L h.2⟩
/-- Reading is given up with this. -/
def Fault (e at_ : Nat) : Ending := .panicked [{ v := .iface 64 (.agg #[.int .i64 (e : Int), .int .i64 (at_ : Int)]), recovered := false }]
def RdAny (w : World) (rb : Nat) : Prop := ∃ v0 v1 d, w.heap[rb]? = some (.cells #[v0, v1, .int .i64 d] 67)
theorem RdAt.any {w : World} {rb fin deep : Nat} {L : List Tok} (h : RdAt w rb fin deep L) : RdAny w rb := by
  obtain ⟨p, cap, hh, _⟩ := h
  exact ⟨_, _, _, hh⟩
/-- Behind a reading: what it gives, in memory, and the signs that are left; or a fault. Only the reader's block is another. -/
def RdPost {α : Type} (val : α → Value → World → Prop) (rb fin deep : Nat) (r : PR α) (w : World) (e : Ending) (w' : World) : Prop := w.grownBy w' (some rb) ∧ match r with
  | .ok a R => ∃ v, e = .returned v ∧ val a v w' ∧ RdAt w' rb fin deep R
  | .bad k p => e = Fault k p ∧ RdAny w' rb
/-- The signs behind the first one. -/
theorem RdAt.tail {w : World} {rb fin deep : Nat} {t : Tok} {R : List Tok} {b o cap : Nat} (hh : w.heap[rb]? = some (.cells #[.slice (some ⟨b, o, none⟩) (t :: R).length cap, .int .i64 (fin : Int), .int .i64 (deep : Int)] 67))
    (hc1 : (t :: R).length ≤ cap) (hc2 : (t :: R).length ≤ 4096) (hb : b < w.heap.size) (hne : b < rb) (ho : o + 4 * (t :: R).length ≤ 20000) (ht : TokRow w b o (t :: R)) (hw : ∀ x ∈ t :: R, x.Ok) (v : Value) (hv : v = .slice (if cap = 1 then some ⟨b, o, none⟩ else some ⟨b, o + 4, none⟩) R.length (cap - 1)) :
    RdAt (w.setCell ⟨rb, 0, none⟩ v) rb fin deep R ∧ w.grownBy (w.setCell ⟨rb, 0, none⟩ v) (some rb) := by
  subst hv
  have hg : w.grownBy (w.setCell ⟨rb, 0, none⟩ (.slice (if cap = 1 then some ⟨b, o, none⟩ else some ⟨b, o + 4, none⟩) R.length (cap - 1))) (some rb) := Lib.grownBy_setB (World.grownBy.refl w _) 0 _
  refine ⟨⟨_, cap - 1, heap_set hh 0 _, ?_, ?_, ?_, fun x hx => hw x (List.mem_cons_of_mem _ hx)⟩, hg⟩
  · simp only [List.length_cons] at hc1; omega
  · simp only [List.length_cons] at hc2; omega
  · intro hR
    have hR1 : 0 < R.length := List.length_pos_iff.2 hR
    simp only [List.length_cons] at hc1 ho
    refine ⟨b, o + 4, if_neg (by omega), Nat.lt_of_lt_of_le hb hg.size, hne, by omega, TokRow.grown hg (Nat.ne_of_lt hne) _ _ ht.2⟩
theorem TokRow.grow {w w' : World} {b : Nat} (hg : Grow w w') : ∀ (o : Nat) (L : List Tok), TokRow w b o L → TokRow w' b o L
  | _, [], _ => trivial
  | o, t :: L, h => ⟨⟨hg.cell h.1.1, hg.cell h.1.2.1, hg.cell h.1.2.2.1, hg.cell h.1.2.2.2⟩, TokRow.grow hg _ L h.2⟩
theorem RdAt.grow {w w' : World} {rb fin deep : Nat} {L : List Tok} (h : RdAt w rb fin deep L) (hg : Grow w w') : RdAt w' rb fin deep L := by
  obtain ⟨p, cap, hh, hc1, hc2, ht, hw⟩ := h
  refine ⟨p, cap, hg.heap hh, hc1, hc2, fun hL => ?_, hw⟩
  obtain ⟨b, o, hp, hb, hne, ho, ht⟩ := ht hL
  exact ⟨b, o, hp, Nat.lt_of_lt_of_le hb hg.size, hne, ho, TokRow.grow hg _ _ ht⟩
theorem RdAny.grow {w w' : World} {rb : Nat} (h : RdAny w rb) (hg : Grow w w') : RdAny w' rb := by
  obtain ⟨a, b, d, hh⟩ := h
  exact ⟨a, b, d, hg.heap hh⟩
theorem RdAt.lt {w : World} {rb fin deep : Nat} {L : List Tok} (h : RdAt w rb fin deep L) : rb < w.heap.size := by
  obtain ⟨p, cap, hh, _⟩ := h
  exact heap_lt hh
/-- A younger block than the reader's is another one. -/
theorem RdAt.grownBy {w w' : World} {rb fin deep g : Nat} {L : List Tok} (h : RdAt w rb fin deep L) (hg : w.grownBy w' (some g)) (hne : rb < g) : RdAt w' rb fin deep L := by
  obtain ⟨p, cap, hh, hc1, hc2, ht, hw⟩ := h
  refine ⟨p, cap, (hg.block rb (heap_lt hh) (by simp; omega)).trans hh, hc1, hc2, fun hL => ?_, hw⟩
  obtain ⟨b, o, hp, hb, hne1, ho, ht⟩ := ht hL
  exact ⟨b, o, hp, Nat.lt_of_lt_of_le hb hg.size, hne1, ho, TokRow.grown hg (by omega) _ _ ht⟩
theorem RdAt.setB {w : World} {rb fin deep g : Nat} {L : List Tok} (h : RdAt w rb fin deep L) (hne : rb < g) (j : Nat) (v : Value) : RdAt (w.setCell ⟨g, j, none⟩ v) rb fin deep L :=
  h.grownBy (Lib.grownBy_setB (World.grownBy.refl w _) j v) hne
theorem Grow.by_ {w w' : World} (h : Grow w w') (row : Option Nat) : w.grownBy w' row := Lib.grownBy_below (World.grownBy.refl w _) h
theorem is_c (s : ByteArray) (rb fin deep : Nat) (L : List Tok) (w : World) (h : RdAt w rb fin deep L) :
    Calls Tryd.prog 57 #[.pointer (some ⟨rb, 0, none⟩), .string s] w fun e w' => e = .returned (.bool (isT L s)) ∧ w = w' := by
  obtain ⟨p, cap, hh, hc1, hc2, ht, hw⟩ := h
  have c0 : w.cell? ⟨rb, 0, none⟩ = some (.slice p L.length cap) := by rw [heap_cell hh]; rfl
  cases L with
  | nil =>
    go_enter Tryd.func57, Tryd.ntmps57
    go_wp2_with fail
    go_ret
    exact ⟨rfl, rfl⟩
  | cons t R =>
    obtain ⟨b, o, rfl, hb, hne, ho, ht, _⟩ := ht (by simp)
    obtain ⟨t0, t1, t2, t3⟩ := ht
    have hl : 0 < ((t :: R).length : Int) := by simp
    generalize (t :: R).length = n at *
    go_enter Tryd.func57, Tryd.ntmps57
    go_wp2_with fail
    go_ret
    exact ⟨rfl, rfl⟩
theorem skip_c (s : ByteArray) (rb fin deep : Nat) (L : List Tok) (w : World) (h : RdAt w rb fin deep L) :
    Calls Tryd.prog 44 #[.pointer (some ⟨rb, 0, none⟩), .string s] w fun e w' => e = .returned (.bool (isT L s)) ∧ RdAt w' rb fin deep (if isT L s then L.tail else L) ∧ w.grownBy w' (some rb) := by
  have C := is_c s rb fin deep L w h
  by_cases hi : isT L s = true
  · rw [hi] at C
    rw [hi, if_pos rfl]
    cases L with
    | nil => simp [isT] at hi
    | cons t R =>
      obtain ⟨p, cap, hh, hc1, hc2, ht, hw⟩ := h
      obtain ⟨b, o, rfl, hb, hne, ho, ht⟩ := ht (by simp)
      have c0 : w.cell? ⟨rb, 0, none⟩ = some (.slice (some ⟨b, o, none⟩) (t :: R).length cap) := by rw [heap_cell hh]; rfl
      have f0 : w.frozen? ⟨rb, 0, none⟩ = false := heap_frozen hh 0 (by omega)
      have hT := hid (RdAt.tail hh hc1 hc2 hb hne ho ht hw)
      have hl : (1 : Int) ≤ ((t :: R).length : Int) := by simp only [List.length_cons]; omega
      have hl2 : ((t :: R).length : Int) ≤ (cap : Int) := by omega
      have hl3 : (t :: R).length - 1 = R.length := by simp
      clear hh hc1 hc2 hb hne ho ht hw
      generalize (t :: R).length = n at *
      go_enter Tryd.func44, Tryd.ntmps44
      go_wp2_with (go_at_call 57; refine C.mono ?_; rintro e w1 ⟨rfl, rfl⟩)
      go_wp2_with fail
      all_goals
        go_ret
        have H := hT.out _ rfl
        simp only [h, if_true, if_false] at H
        exact ⟨rfl, H.1, H.2⟩
  · have hi : isT L s = false := by simpa using hi
    rw [hi] at C
    rw [hi, if_neg (by simp)]
    go_enter Tryd.func44, Tryd.ntmps44
    go_wp2_with (go_at_call 57; refine C.mono ?_; rintro e w1 ⟨rfl, rfl⟩)
    go_wp2_with fail
    go_ret
    exact ⟨rfl, h, World.grownBy.refl _ _⟩
theorem skipNo_c (s : ByteArray) (rb fin deep : Nat) (L : List Tok) (w : World) (h : RdAt w rb fin deep L) (hi : isT L s = false) :
    Calls Tryd.prog 44 #[.pointer (some ⟨rb, 0, none⟩), .string s] w fun e w' => e = .returned (.bool false) ∧ w = w' := by
  have C := is_c s rb fin deep L w h
  rw [hi] at C
  go_enter Tryd.func44, Tryd.ntmps44
  go_wp2_with (go_at_call 57; refine C.mono ?_; rintro e w1 ⟨rfl, rfl⟩)
  go_wp2_with fail
  go_ret
  exact ⟨rfl, rfl⟩
theorem skipYes_c (s : ByteArray) (rb fin deep : Nat) (L : List Tok) (w : World) (h : RdAt w rb fin deep L) (hi : isT L s = true) :
    Calls Tryd.prog 44 #[.pointer (some ⟨rb, 0, none⟩), .string s] w fun e w' => e = .returned (.bool true) ∧ RdAt w' rb fin deep L.tail ∧ w.grownBy w' (some rb) := by
  refine (skip_c s rb fin deep L w h).mono ?_
  rw [hi, if_pos rfl]
  exact fun _ _ h => h
theorem fail_c (k : Nat) (rb fin deep : Nat) (L : List Tok) (w : World) (h : RdAt w rb fin deep L) :
    Calls Tryd.prog 47 #[.pointer (some ⟨rb, 0, none⟩), .int .i64 (k : Int)] w fun e w' => e = Fault (failE k L) (failAt fin L) ∧ w = w' := by
  obtain ⟨p, cap, hh, hc1, hc2, ht, hw⟩ := h
  have c0 : w.cell? ⟨rb, 0, none⟩ = some (.slice p L.length cap) := by rw [heap_cell hh]; rfl
  have c1 : w.cell? ⟨rb, 1, none⟩ = some (.int .i64 (fin : Int)) := by rw [heap_cell hh]; rfl
  cases L with
  | nil =>
    by_cases hk : k = 41
    · subst hk
      go_enter Tryd.func47, Tryd.ntmps47
      go_wp2_with fail
      exact ⟨rfl, rfl, rfl⟩
    · have hk1 : ((k : Int) == 41) = false := by simp; omega
      go_enter Tryd.func47, Tryd.ntmps47
      go_wp2_with fail
      exact ⟨rfl, by unfold failE failAt Fault; simp [hk], rfl⟩
  | cons t R =>
    obtain ⟨b, o, rfl, hb, hne, ho, ht, _⟩ := ht (by simp)
    obtain ⟨t0, t1, t2, t3⟩ := ht
    have hl : 0 < ((t :: R).length : Int) := by simp
    generalize (t :: R).length = n at *
    go_enter Tryd.func47, Tryd.ntmps47
    go_wp2_with fail
    exact ⟨rfl, rfl, rfl⟩
def tokV (t : Tok) : Value := .agg #[.int .i64 (t.kind : Int), .string t.str, .int .i64 t.num, .int .i64 (t.pos : Int)]
/-- The next sign, of a kind. -/
def takeP (fin kind : Nat) (L : List Tok) : PR Tok := match L with
  | [] => failP fin 41 []
  | t :: R => if t.kind = kind then .ok t R else failP fin 41 (t :: R)
theorem take_c (k : Nat) (rb fin deep : Nat) (L : List Tok) (w : World) (h : RdAt w rb fin deep L) :
    Calls Tryd.prog 48 #[.pointer (some ⟨rb, 0, none⟩), .int .i64 (k : Int)] w (RdPost (fun t v _ => v = tokV t) rb fin deep (takeP fin k L) w) := by
  have hrb : rb < w.heap.size := by obtain ⟨p, cap, hh, _⟩ := h; exact heap_lt hh
  cases L with
  | nil =>
    have h0 := h
    obtain ⟨p, cap, hh, hc1, hc2, ht, hw⟩ := h
    have c0 : w.cell? ⟨rb, 0, none⟩ = some (.slice p 0 cap) := by rw [heap_cell hh]; rfl
    have hT := hid h0
    clear hh hc1 hc2 ht h0 hw
    go_enter Tryd.func48, Tryd.ntmps48
    go_wp2_with (go_at_call 47; refine (fail_c 41 rb fin deep [] _ (hT.out.grow (Grow.alloc _ _))).mono ?_; rintro e w1 ⟨rfl, rfl⟩; unfold Fault)
    exact ⟨rfl, (Grow.alloc _ _).by_ _, rfl, (hT.out.grow (Grow.alloc _ _)).any⟩
  | cons t R =>
    by_cases hk : t.kind = k
    · rw [show takeP fin k (t :: R) = .ok t R from if_pos hk]
      have hk1 : ((t.kind : Int) != (k : Int)) = false := by simp [hk]
      obtain ⟨p, cap, hh, hc1, hc2, ht, hw⟩ := h
      obtain ⟨b, o, rfl, hb, hne, ho, ht⟩ := ht (by simp)
      have c0 : w.cell? ⟨rb, 0, none⟩ = some (.slice (some ⟨b, o, none⟩) (t :: R).length cap) := by rw [heap_cell hh]; rfl
      have f0 : w.frozen? ⟨rb, 0, none⟩ = false := heap_frozen hh 0 (by omega)
      have hT := hid (RdAt.tail hh hc1 hc2 hb hne ho ht hw)
      have hl : (1 : Int) ≤ ((t :: R).length : Int) := by simp only [List.length_cons]; omega
      have hl0 : (0 : Int) < ((t :: R).length : Int) := by omega
      have hlz : (((t :: R).length : Int) == 0) = false := by simp; omega
      have hl2 : ((t :: R).length : Int) ≤ (cap : Int) := by omega
      have hl3 : (t :: R).length - 1 = R.length := by simp
      obtain ⟨⟨t0, t1, t2, t3⟩, -⟩ := ht
      clear hc1 hc2 ho hw
      generalize (t :: R).length = n at *
      go_enter Tryd.func48, Tryd.ntmps48
      go_wp2_with fail
      all_goals
        have H := hT.out _ rfl
        simp only [h, if_true, if_false] at H
        (try simp only [Exit.inBlock, Exit.then])
        refine bodyPost_ret (results_cellK (fn := Tryd.f48) (p := 4) rfl _ _ w.heap.size 78 _ (0, 0) _ rfl (heap_alloc_keep (heap_newAt _ _ (by simp)) _) Tryd.underlying78 rfl (by kernel_rfl)) rfl ?_
        refine ⟨Lib.grownBy_below H.2 (Grow.trans (Grow.alloc _ _) (Grow.alloc _ _)), _, rfl, ?_, H.1.grow (Grow.trans (Grow.alloc _ _) (Grow.alloc _ _))⟩
        show _ = tokV t
        unfold tokV
        rw [hk]
    · rw [show takeP fin k (t :: R) = failP fin 41 (t :: R) from if_neg hk]
      have hk1 : ((t.kind : Int) != (k : Int)) = true := by simp; omega
      have HF := hid (fail_c 41 rb fin deep (t :: R) (w.alloc (.cells #[.int .i64 0, .string ⟨#[]⟩, .int .i64 0, .int .i64 0] 78)) (h.grow (Grow.alloc _ _)))
      have hA := hid ((h.grow (Grow.alloc w (.cells #[.int .i64 0, .string ⟨#[]⟩, .int .i64 0, .int .i64 0] 78))).any)
      obtain ⟨p, cap, hh, hc1, hc2, ht, hw⟩ := h
      obtain ⟨b, o, rfl, hb, hne, ho, ht⟩ := ht (by simp)
      have c0 : w.cell? ⟨rb, 0, none⟩ = some (.slice (some ⟨b, o, none⟩) (t :: R).length cap) := by rw [heap_cell hh]; rfl
      have hl : (1 : Int) ≤ ((t :: R).length : Int) := by simp only [List.length_cons]; omega
      have hl0 : (0 : Int) < ((t :: R).length : Int) := by omega
      have hlz : (((t :: R).length : Int) == 0) = false := by simp; omega
      obtain ⟨⟨t0, t1, t2, t3⟩, -⟩ := ht
      clear hc1 hc2 ho hh hw
      generalize (t :: R).length = n at *
      go_enter Tryd.func48, Tryd.ntmps48
      go_wp2_with (go_at_call 47; refine (HF.out).mono ?_; rintro e w1 ⟨rfl, rfl⟩; unfold Fault)
      exact ⟨rfl, (Grow.alloc _ _).by_ _, rfl, hA.out⟩
end Go.Proofs.YteilkcdbdpkbfaaDoor
