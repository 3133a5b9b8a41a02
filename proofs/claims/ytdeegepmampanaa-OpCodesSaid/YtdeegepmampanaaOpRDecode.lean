/- What the reference's Decode computes. -/
import Derived.Test.YtdeegepmampanaaOpDecode
import Derived.Test.YtdeegepmampanaaOpRCheck
import Derived.Test.YtdeegepmampanaaRUnvar
import Derived.Deep.RegionHeld3
namespace Go.Proofs.Ytdeegepmampanaa
open Go.RowKit
set_option linter.unusedVariables false
set_option linter.unusedSimpArgs false
theorem infoU64 : Info Try.prog 58 (.int .u64 0) 1 8 := by unfold Info; kernel_rfl
def u64s (l : List Nat) : List Value := l.map fun (n : Nat) => .int .u64 (n : Int)
theorem u64s_snoc (l : List Nat) (n : Nat) : u64s l ++ [.int .u64 (n : Int)] = u64s (l ++ [n]) := by simp [u64s]
/-- What has been read of a text, and what is left. -/
def Part (t : List UInt8) (ns : List Nat) (r : List UInt8) : Prop := runR 11 t = (runR (11 - ns.length) r).map (ns ++ ·) ∧ ∀ n ∈ ns, n ≤ 1099511627776
theorem Part.start (t : List UInt8) : Part t [] t := ⟨by simp, fun n hn => by cases hn⟩
theorem Part.step {t r r' : List UInt8} {ns : List Nat} {n : Nat} (h : Part t ns r) (hl : ns.length < 11) (hr : r ≠ []) (ho : one r = some (n, r')) : Part t (ns ++ [n]) r' := by
  obtain ⟨h1, h2⟩ := h
  obtain ⟨f, hf⟩ : ∃ f, 11 - ns.length = f + 1 := ⟨10 - ns.length, by omega⟩
  have hn : n ≤ 1099511627776 := by
    unfold one at ho
    split at ho
    · rename_i hc; simp only [Option.some.injEq, Prod.mk.injEq] at ho; rw [← ho.1]; exact hc.2
    · cases ho
  refine ⟨?_, fun m hm => ?_⟩
  · rw [h1, hf, List.length_append, List.length_singleton, show 11 - (ns.length + 1) = f by omega]
    conv => lhs; unfold runR
    rw [if_neg hr, ho]
    simp only [Option.map_map]
    congr 1
    funext l
    simp
  · rcases List.mem_append.1 hm with hm | hm
    · exact h2 m hm
    · simp only [List.mem_singleton] at hm; rw [hm]; exact hn
theorem Part.stop {t r : List UInt8} {ns : List Nat} (h : Part t ns r) (hl : ns.length < 11) (hr : r ≠ []) (ho : one r = none) : decL t = none := by
  obtain ⟨f, hf⟩ : ∃ f, 11 - ns.length = f + 1 := ⟨10 - ns.length, by omega⟩
  have : runR 11 t = none := by
    rw [h.1, hf]
    unfold runR
    rw [if_neg hr, ho]
    rfl
  unfold decL
  rw [this]
theorem Part.done {t r : List UInt8} {ns : List Nat} (h : Part t ns r) (he : r = [] ∨ ns.length = 11) : decL t = if ns.length = 8 then okOp (mk8 ns) else if ns.length = 10 then okOp (mk10 ns) else none := by
  have : runR 11 t = some ns := by
    rw [h.1]
    rcases he with rfl | he
    · cases 11 - ns.length <;> simp [runR]
    · rw [he]; simp [runR]
  unfold decL
  rw [this]
theorem ns8 {l : List Nat} (h : l.length = 8) : ∃ a b c d e f g k, l = [a, b, c, d, e, f, g, k] := by
  match l, h with
  | [a, b, c, d, e, f, g, k], _ => exact ⟨a, b, c, d, e, f, g, k, rfl⟩
theorem ns10 {l : List Nat} (h : l.length = 10) : ∃ a b c d e f g k m n, l = [a, b, c, d, e, f, g, k, m, n] := by
  match l, h with
  | [a, b, c, d, e, f, g, k, m, n], _ => exact ⟨a, b, c, d, e, f, g, k, m, n, rfl⟩
theorem own_grow {w w' : World} {base : Nat} {e : TypeId} {size : Nat} {v : Value} {n : Nat} {xs : List Value} (h : w.ownsRow base e size v n xs) (hg : Grow w w') : w'.ownsRow base e size v n xs :=
  h.kept (row := none) ⟨hg.os, hg.tape, hg.output, hg.size, fun k hk _ => hg.block k hk⟩ (by cases v.ownBlock <;> simp)
theorem own_form {w : World} {base : Nat} {e : TypeId} {size : Nat} {v : Value} {n : Nat} {xs : List Value} (h : w.ownsRow base e size v n xs) : ∃ A c, v = .slice A n c := by
  rcases h.2 with ⟨rfl, rfl⟩ | ⟨g, cap, cur, rfl, _⟩
  · exact ⟨_, _, rfl⟩
  · exact ⟨_, _, rfl⟩
theorem calls_flipR {P : Program} {f : FuncId} {args : Array Value} {w : World} {v : Value} (h : Calls P f args w fun e w' => e = .returned v ∧ w = w') : Calls P f args w fun e w' => e = .returned v ∧ w' = w := h.mono fun _ _ hh => ⟨hh.1, hh.2.symm⟩
theorem Grow.drewNG (a : World) (n : Nat) : Grow a (a.drewN n) := ⟨(Grow.refl a).os, (Grow.refl a).tape, (Grow.refl a).output, (Grow.refl a).size, (Grow.refl a).block⟩
theorem own_addr {w : World} {base : Nat} {e : TypeId} {size : Nat} {A : Option Addr} {c n : Nat} {xs : List Value} (h : w.ownsRow base e size (.slice A n c) n xs) (h0 : 0 < n) : ∃ g, A = some ⟨g, 0, none⟩ := by
  rcases h.2 with ⟨hv, _⟩ | ⟨g, cap, cur, hv, _⟩
  · injection hv with _ h1 _
    omega
  · injection hv with h1 _ _
    exact ⟨g, h1⟩
theorem grow_alloc {w w' : World} {o : Obj} (hb : Below w.heap.size w w') (h : w'.heap[w.heap.size]? = some o) : Grow (w.alloc o) w' := by
  refine ⟨hb.os, hb.tape, hb.output, ?_, ?_⟩
  · have := heap_lt h
    simp
    omega
  · intro i hi
    simp at hi
    rcases Nat.lt_or_ge i w.heap.size with h1 | h1
    · rw [hb.block i h1, Below.heap_alloc w o i h1]
    · obtain rfl : i = w.heap.size := by omega
      rw [h, heap_new]
set_option maxRecDepth 100000 in
set_option maxHeartbeats 20000000 in
theorem RDecode_c (s : ByteArray) (w : World) (hs : s.size ≤ 140737488351232) : Calls Try.prog 20 #[.string s] w fun e w' => e = .returned (.tuple #[decV (decL s.data.toList), .int .i64 (decE (decL s.data.toList))]) ∧ Grow w w' := by
  generalize hF0 : decL s.data.toList = F
  have HP0 := hid (Part.start s.data.toList)
  have HSTOP := hid (fun r ns h1 h2 h3 h4 => hF0.symm.trans (Part.stop (t := s.data.toList) (r := r) (ns := ns) h1 h2 h3 h4))
  have HDONE := hid (fun r ns h1 h2 => hF0.symm.trans (Part.done (t := s.data.toList) (r := r) (ns := ns) h1 h2))
  clear hF0
  generalize hTX : s.data.toList = TX at HP0 HSTOP HDONE
  have HTX := hid hTX
  clear hTX
  have HU := hid (fun S w hs => RUnvar_c S w hs)
  go_enter Try.func20, Try.ntmps20
  go_wp2_with fail
  go_loopw [0, 4] (fun sv v wr => ∃ (S : ByteArray) (ns : List Nat), sv = .string S ∧ S.size ≤ 140737488351232 ∧ ns.length ≤ 11 ∧ Hid (Part TX ns S.data.toList) ∧ wr.ownsRow w.heap.size 58 1 v ns.length (u64s ns) ∧ Grow (w.alloc (.cells #[.int .i64 0, .int .i64 0, .int .i64 0, .int .i64 0, .int .i64 0, .int .i64 0, .int .i64 0, .bool false, .int .i64 0, .int .i64 0, .int .i64 0] 29)) wr ∧ Hid (wr.heap[w.heap.size]? = some (.cells #[.int .i64 0, .int .i64 0, .int .i64 0, .int .i64 0, .int .i64 0, .int .i64 0, .int .i64 0, .bool false, .int .i64 0, .int .i64 0, .int .i64 0] 29 (0, 0)))) (fun sv _ _ => match sv with | .string S => S.size | _ => 0)
  case atStart => exact ⟨s, [], rfl, hs, by simp, by rw [HTX.out]; exact HP0, World.ownsRow_nil _ _ _ _, Grow.refl _, hid (heap_new _ _)⟩
  case round =>
    obtain ⟨S, ns, rfl, hS, hns, HP, hown, hg, HZ0⟩ := hrel
    have hsz : w.heap.size ≤ wr.heap.size := by have := hg.size; simp at this; omega
    obtain ⟨A, cp, rfl⟩ := own_form hown
    by_cases hgo : 0 < S.size ∧ ns.length ≤ 10
    · obtain ⟨h0, h10⟩ := hgo
      have hne : S.data.toList ≠ [] := fun h => by have := congrArg List.length h; rw [Array.length_toList, ByteArray.size_data] at this; simp only [List.length_nil] at this; omega
      have hb1 : (0 : Int) < (S.size : Int) := by omega
      have hb2 : (ns.length : Int) ≤ 10 := by omega
      have hU := fun w => HU.out S w (by unfold maxLen; omega)
      obtain ⟨u1, u2, u3, u4⟩ := unvarP_bd S.data.toList
      have hon : one S.data.toList = if 0 < (unvarP S.data.toList).2 ∧ (unvarP S.data.toList).1 ≤ 1099511627776 then some ((unvarP S.data.toList).1, S.data.toList.drop (unvarP S.data.toList).2) else none := rfl
      have hSl : S.data.toList.length = S.size := by simp
      generalize hn : (unvarP S.data.toList).1 = n at *
      generalize hk : (unvarP S.data.toList).2 = k at *
      by_cases hok : 0 < k ∧ n ≤ 1099511627776
      · rw [if_pos hok] at hon
        obtain ⟨k0, n0⟩ := hok
        have HP2 := hid (HP.out.step (by omega) hne hon)
        have hsub : (S.extract k S.size).data.toList = S.data.toList.drop k := by
          simp only [ByteArray.data_extract, Array.toList_extract, List.extract_eq_take_drop]
          rw [List.take_of_length_le (by simp)]
        have HSUB := hid hsub
        have hk0 : ((k : Int) == 0) = false := by simp; omega
        have hn0 : ¬ (1099511627776 : Int) < (n : Int) := by omega
        have hkS : (k : Int) ≤ (S.size : Int) := by omega
        have HU1 := hid hU
        clear hU hsub hon hn hk hne u4 hSl
        go_wp2_with fail
        refine (HU1.out _).mono ?_
        rintro e w1 ⟨rfl, g1⟩
        go_wp2_with (at_builtin; refine wpList_push rfl _ _ 66 rfl 58 (.int .u64 0) 1 8 Try.underlying66 infoU64 rfl (by omega) w.heap.size _ ns.length _ rfl (own_grow hown g1) [_] rfl rfl (by simp [Value.oneCell']) (by unfold maxLen; omega) (by omega) (Nat.le_trans hsz g1.size) ?_)
        intro v' w' ho hgr hs'
        rw [u64s_snoc] at ho
        have hz1 := Grow.heap g1 HZ0.out
        have hgn : w'.heap[w.heap.size]? = some (.cells #[.int .i64 0, .int .i64 0, .int .i64 0, .int .i64 0, .int .i64 0, .int .i64 0, .int .i64 0, .bool false, .int .i64 0, .int .i64 0, .int .i64 0] 29 (0, 0)) := by
          rw [hgr.block w.heap.size (heap_lt hz1) (fun e => (Lib.ownBlock_ne (own_grow hown g1) hz1 (by decide)) e.symm)]
          exact hz1
        have hg2 : Grow (w.alloc (.cells #[.int .i64 0, .int .i64 0, .int .i64 0, .int .i64 0, .int .i64 0, .int .i64 0, .int .i64 0, .bool false, .int .i64 0, .int .i64 0, .int .i64 0] 29)) w' := by
          have hb : Below w.heap.size w w' := Row.below (Grow.trans (Grow.trans (Grow.alloc _ _) hg) g1) hgr (Nat.le_trans hsz g1.size) (fun k hk => (hown.lt k hk).1)
          exact grow_alloc hb hgn
        have HZ2 := hid hgn
        clear hown hgr hg hz1 hgn HZ0
        go_wp2_with fail
        go_roundw
        case rel => exact ⟨_, ns ++ [n], rfl, by rw [ByteArray.size_extract]; omega, by rw [List.length_append]; simp only [List.length_singleton]; omega, by rw [HSUB.out]; exact HP2, by rw [List.length_append]; exact ho, hg2, HZ2⟩
        case measure => simp; omega
      · rw [if_neg hok] at hon
        have HN := hid (HSTOP.out _ _ HP.out (by omega) hne hon)
        have HU1 := hid hU
        clear hU hn hk hne hSl hon u4
        by_cases hk0 : k = 0
        · subst hk0
          go_wp2_with fail
          refine (HU1.out _).mono ?_
          rintro e w1 ⟨rfl, g1⟩
          have hz := Grow.heap g1 HZ0.out
          have cz0 : w1.cell? ⟨w.heap.size, 0, none⟩ = some (.int .i64 0) := by rw [heap_cell hz]; rfl
          have fz0 : w1.frozen? ⟨w.heap.size, 0, none⟩ = false := heap_frozen hz 0 (by omega)
          have cz1 : w1.cell? ⟨w.heap.size, 1, none⟩ = some (.int .i64 0) := by rw [heap_cell hz]; rfl
          have fz1 : w1.frozen? ⟨w.heap.size, 1, none⟩ = false := heap_frozen hz 1 (by omega)
          have cz2 : w1.cell? ⟨w.heap.size, 2, none⟩ = some (.int .i64 0) := by rw [heap_cell hz]; rfl
          have fz2 : w1.frozen? ⟨w.heap.size, 2, none⟩ = false := heap_frozen hz 2 (by omega)
          have cz3 : w1.cell? ⟨w.heap.size, 3, none⟩ = some (.int .i64 0) := by rw [heap_cell hz]; rfl
          have fz3 : w1.frozen? ⟨w.heap.size, 3, none⟩ = false := heap_frozen hz 3 (by omega)
          have cz4 : w1.cell? ⟨w.heap.size, 4, none⟩ = some (.int .i64 0) := by rw [heap_cell hz]; rfl
          have fz4 : w1.frozen? ⟨w.heap.size, 4, none⟩ = false := heap_frozen hz 4 (by omega)
          have cz5 : w1.cell? ⟨w.heap.size, 5, none⟩ = some (.int .i64 0) := by rw [heap_cell hz]; rfl
          have fz5 : w1.frozen? ⟨w.heap.size, 5, none⟩ = false := heap_frozen hz 5 (by omega)
          have cz6 : w1.cell? ⟨w.heap.size, 6, none⟩ = some (.int .i64 0) := by rw [heap_cell hz]; rfl
          have fz6 : w1.frozen? ⟨w.heap.size, 6, none⟩ = false := heap_frozen hz 6 (by omega)
          have cz7 : w1.cell? ⟨w.heap.size, 7, none⟩ = some (.bool false) := by rw [heap_cell hz]; rfl
          have fz7 : w1.frozen? ⟨w.heap.size, 7, none⟩ = false := heap_frozen hz 7 (by omega)
          have cz8 : w1.cell? ⟨w.heap.size, 8, none⟩ = some (.int .i64 0) := by rw [heap_cell hz]; rfl
          have fz8 : w1.frozen? ⟨w.heap.size, 8, none⟩ = false := heap_frozen hz 8 (by omega)
          have cz9 : w1.cell? ⟨w.heap.size, 9, none⟩ = some (.int .i64 0) := by rw [heap_cell hz]; rfl
          have fz9 : w1.frozen? ⟨w.heap.size, 9, none⟩ = false := heap_frozen hz 9 (by omega)
          have cz10 : w1.cell? ⟨w.heap.size, 10, none⟩ = some (.int .i64 0) := by rw [heap_cell hz]; rfl
          have fz10 : w1.frozen? ⟨w.heap.size, 10, none⟩ = false := heap_frozen hz 10 (by omega)
          have HZ := hid hz
          clear hz
          go_wp2_with fail
          (try simp only [Exit.inBlock, Exit.then])
          refine bodyPost_ret (v := .tuple #[.agg #[.int .i64 0, .int .i64 0, .int .i64 0, .int .i64 0, .int .i64 0, .int .i64 0, .int .i64 0, .bool false, .int .i64 0, .int .i64 0, .int .i64 0], .int .i64 14]) ?_ rfl ⟨?_, ?_⟩
          · refine results_row2 (fn := Try.f20) (p := 2) (u := 3) rfl _ _ w.heap.size 29 _ (0, 0) _ rfl ?_ Try.underlying29 rfl ?_
            · exact (heap_setV (heap_setV (heap_setV (heap_setV (heap_setV (heap_setV (heap_setV (heap_setV (heap_setV (heap_setV (heap_setV HZ.out 0 (.int .i64 0) #[.int .i64 0, .int .i64 0, .int .i64 0, .int .i64 0, .int .i64 0, .int .i64 0, .int .i64 0, .bool false, .int .i64 0, .int .i64 0, .int .i64 0] rfl) 1 (.int .i64 0) #[.int .i64 0, .int .i64 0, .int .i64 0, .int .i64 0, .int .i64 0, .int .i64 0, .int .i64 0, .bool false, .int .i64 0, .int .i64 0, .int .i64 0] rfl) 2 (.int .i64 0) #[.int .i64 0, .int .i64 0, .int .i64 0, .int .i64 0, .int .i64 0, .int .i64 0, .int .i64 0, .bool false, .int .i64 0, .int .i64 0, .int .i64 0] rfl) 3 (.int .i64 0) #[.int .i64 0, .int .i64 0, .int .i64 0, .int .i64 0, .int .i64 0, .int .i64 0, .int .i64 0, .bool false, .int .i64 0, .int .i64 0, .int .i64 0] rfl) 4 (.int .i64 0) #[.int .i64 0, .int .i64 0, .int .i64 0, .int .i64 0, .int .i64 0, .int .i64 0, .int .i64 0, .bool false, .int .i64 0, .int .i64 0, .int .i64 0] rfl) 5 (.int .i64 0) #[.int .i64 0, .int .i64 0, .int .i64 0, .int .i64 0, .int .i64 0, .int .i64 0, .int .i64 0, .bool false, .int .i64 0, .int .i64 0, .int .i64 0] rfl) 6 (.int .i64 0) #[.int .i64 0, .int .i64 0, .int .i64 0, .int .i64 0, .int .i64 0, .int .i64 0, .int .i64 0, .bool false, .int .i64 0, .int .i64 0, .int .i64 0] rfl) 7 (.bool false) #[.int .i64 0, .int .i64 0, .int .i64 0, .int .i64 0, .int .i64 0, .int .i64 0, .int .i64 0, .bool false, .int .i64 0, .int .i64 0, .int .i64 0] rfl) 8 (.int .i64 0) #[.int .i64 0, .int .i64 0, .int .i64 0, .int .i64 0, .int .i64 0, .int .i64 0, .int .i64 0, .bool false, .int .i64 0, .int .i64 0, .int .i64 0] rfl) 9 (.int .i64 0) #[.int .i64 0, .int .i64 0, .int .i64 0, .int .i64 0, .int .i64 0, .int .i64 0, .int .i64 0, .bool false, .int .i64 0, .int .i64 0, .int .i64 0] rfl) 10 (.int .i64 0) #[.int .i64 0, .int .i64 0, .int .i64 0, .int .i64 0, .int .i64 0, .int .i64 0, .int .i64 0, .bool false, .int .i64 0, .int .i64 0, .int .i64 0] rfl)
            · kernel_rfl
          · rw [HN.out]; rfl
          · have g9 := Grow.trans (Grow.trans (Grow.alloc _ _) hg) g1
            exact (Grow.setD (Grow.setD (Grow.setD (Grow.setD (Grow.setD (Grow.setD (Grow.setD (Grow.setD (Grow.setD (Grow.setD (Grow.setD g9 _ _ (Nat.le_refl _) _) _ _ (Nat.le_refl _) _) _ _ (Nat.le_refl _) _) _ _ (Nat.le_refl _) _) _ _ (Nat.le_refl _) _) _ _ (Nat.le_refl _) _) _ _ (Nat.le_refl _) _) _ _ (Nat.le_refl _) _) _ _ (Nat.le_refl _) _) _ _ (Nat.le_refl _) _) _ _ (Nat.le_refl _) _)
        · have hk1 : ((k : Int) == 0) = false := by simp; omega
          have hn0 : (1099511627776 : Int) < (n : Int) := by omega
          go_wp2_with fail
          refine (HU1.out _).mono ?_
          rintro e w1 ⟨rfl, g1⟩
          have hz := Grow.heap g1 HZ0.out
          have cz0 : w1.cell? ⟨w.heap.size, 0, none⟩ = some (.int .i64 0) := by rw [heap_cell hz]; rfl
          have fz0 : w1.frozen? ⟨w.heap.size, 0, none⟩ = false := heap_frozen hz 0 (by omega)
          have cz1 : w1.cell? ⟨w.heap.size, 1, none⟩ = some (.int .i64 0) := by rw [heap_cell hz]; rfl
          have fz1 : w1.frozen? ⟨w.heap.size, 1, none⟩ = false := heap_frozen hz 1 (by omega)
          have cz2 : w1.cell? ⟨w.heap.size, 2, none⟩ = some (.int .i64 0) := by rw [heap_cell hz]; rfl
          have fz2 : w1.frozen? ⟨w.heap.size, 2, none⟩ = false := heap_frozen hz 2 (by omega)
          have cz3 : w1.cell? ⟨w.heap.size, 3, none⟩ = some (.int .i64 0) := by rw [heap_cell hz]; rfl
          have fz3 : w1.frozen? ⟨w.heap.size, 3, none⟩ = false := heap_frozen hz 3 (by omega)
          have cz4 : w1.cell? ⟨w.heap.size, 4, none⟩ = some (.int .i64 0) := by rw [heap_cell hz]; rfl
          have fz4 : w1.frozen? ⟨w.heap.size, 4, none⟩ = false := heap_frozen hz 4 (by omega)
          have cz5 : w1.cell? ⟨w.heap.size, 5, none⟩ = some (.int .i64 0) := by rw [heap_cell hz]; rfl
          have fz5 : w1.frozen? ⟨w.heap.size, 5, none⟩ = false := heap_frozen hz 5 (by omega)
          have cz6 : w1.cell? ⟨w.heap.size, 6, none⟩ = some (.int .i64 0) := by rw [heap_cell hz]; rfl
          have fz6 : w1.frozen? ⟨w.heap.size, 6, none⟩ = false := heap_frozen hz 6 (by omega)
          have cz7 : w1.cell? ⟨w.heap.size, 7, none⟩ = some (.bool false) := by rw [heap_cell hz]; rfl
          have fz7 : w1.frozen? ⟨w.heap.size, 7, none⟩ = false := heap_frozen hz 7 (by omega)
          have cz8 : w1.cell? ⟨w.heap.size, 8, none⟩ = some (.int .i64 0) := by rw [heap_cell hz]; rfl
          have fz8 : w1.frozen? ⟨w.heap.size, 8, none⟩ = false := heap_frozen hz 8 (by omega)
          have cz9 : w1.cell? ⟨w.heap.size, 9, none⟩ = some (.int .i64 0) := by rw [heap_cell hz]; rfl
          have fz9 : w1.frozen? ⟨w.heap.size, 9, none⟩ = false := heap_frozen hz 9 (by omega)
          have cz10 : w1.cell? ⟨w.heap.size, 10, none⟩ = some (.int .i64 0) := by rw [heap_cell hz]; rfl
          have fz10 : w1.frozen? ⟨w.heap.size, 10, none⟩ = false := heap_frozen hz 10 (by omega)
          have HZ := hid hz
          clear hz
          go_wp2_with fail
          (try simp only [Exit.inBlock, Exit.then])
          refine bodyPost_ret (v := .tuple #[.agg #[.int .i64 0, .int .i64 0, .int .i64 0, .int .i64 0, .int .i64 0, .int .i64 0, .int .i64 0, .bool false, .int .i64 0, .int .i64 0, .int .i64 0], .int .i64 14]) ?_ rfl ⟨?_, ?_⟩
          · refine results_row2 (fn := Try.f20) (p := 2) (u := 3) rfl _ _ w.heap.size 29 _ (0, 0) _ rfl ?_ Try.underlying29 rfl ?_
            · exact (heap_setV (heap_setV (heap_setV (heap_setV (heap_setV (heap_setV (heap_setV (heap_setV (heap_setV (heap_setV (heap_setV HZ.out 0 (.int .i64 0) #[.int .i64 0, .int .i64 0, .int .i64 0, .int .i64 0, .int .i64 0, .int .i64 0, .int .i64 0, .bool false, .int .i64 0, .int .i64 0, .int .i64 0] rfl) 1 (.int .i64 0) #[.int .i64 0, .int .i64 0, .int .i64 0, .int .i64 0, .int .i64 0, .int .i64 0, .int .i64 0, .bool false, .int .i64 0, .int .i64 0, .int .i64 0] rfl) 2 (.int .i64 0) #[.int .i64 0, .int .i64 0, .int .i64 0, .int .i64 0, .int .i64 0, .int .i64 0, .int .i64 0, .bool false, .int .i64 0, .int .i64 0, .int .i64 0] rfl) 3 (.int .i64 0) #[.int .i64 0, .int .i64 0, .int .i64 0, .int .i64 0, .int .i64 0, .int .i64 0, .int .i64 0, .bool false, .int .i64 0, .int .i64 0, .int .i64 0] rfl) 4 (.int .i64 0) #[.int .i64 0, .int .i64 0, .int .i64 0, .int .i64 0, .int .i64 0, .int .i64 0, .int .i64 0, .bool false, .int .i64 0, .int .i64 0, .int .i64 0] rfl) 5 (.int .i64 0) #[.int .i64 0, .int .i64 0, .int .i64 0, .int .i64 0, .int .i64 0, .int .i64 0, .int .i64 0, .bool false, .int .i64 0, .int .i64 0, .int .i64 0] rfl) 6 (.int .i64 0) #[.int .i64 0, .int .i64 0, .int .i64 0, .int .i64 0, .int .i64 0, .int .i64 0, .int .i64 0, .bool false, .int .i64 0, .int .i64 0, .int .i64 0] rfl) 7 (.bool false) #[.int .i64 0, .int .i64 0, .int .i64 0, .int .i64 0, .int .i64 0, .int .i64 0, .int .i64 0, .bool false, .int .i64 0, .int .i64 0, .int .i64 0] rfl) 8 (.int .i64 0) #[.int .i64 0, .int .i64 0, .int .i64 0, .int .i64 0, .int .i64 0, .int .i64 0, .int .i64 0, .bool false, .int .i64 0, .int .i64 0, .int .i64 0] rfl) 9 (.int .i64 0) #[.int .i64 0, .int .i64 0, .int .i64 0, .int .i64 0, .int .i64 0, .int .i64 0, .int .i64 0, .bool false, .int .i64 0, .int .i64 0, .int .i64 0] rfl) 10 (.int .i64 0) #[.int .i64 0, .int .i64 0, .int .i64 0, .int .i64 0, .int .i64 0, .int .i64 0, .int .i64 0, .bool false, .int .i64 0, .int .i64 0, .int .i64 0] rfl)
            · kernel_rfl
          · rw [HN.out]; rfl
          · have g9 := Grow.trans (Grow.trans (Grow.alloc _ _) hg) g1
            exact (Grow.setD (Grow.setD (Grow.setD (Grow.setD (Grow.setD (Grow.setD (Grow.setD (Grow.setD (Grow.setD (Grow.setD (Grow.setD g9 _ _ (Nat.le_refl _) _) _ _ (Nat.le_refl _) _) _ _ (Nat.le_refl _) _) _ _ (Nat.le_refl _) _) _ _ (Nat.le_refl _) _) _ _ (Nat.le_refl _) _) _ _ (Nat.le_refl _) _) _ _ (Nat.le_refl _) _) _ _ (Nat.le_refl _) _) _ _ (Nat.le_refl _) _) _ _ (Nat.le_refl _) _)
    · have he : S.data.toList = [] ∨ ns.length = 11 := by
        by_cases h0 : S.size = 0
        · left
          exact List.eq_nil_of_length_eq_zero (by rw [Array.length_toList, ByteArray.size_data]; exact h0)
        · right; omega
      have HD := HDONE.out _ _ HP.out he
      have ht : (¬ (0 : Int) < (S.size : Int)) ∨ ((0 : Int) < (S.size : Int) ∧ (10 : Int) < (ns.length : Int)) := by
        by_cases h0 : S.size = 0
        · left; omega
        · right; omega
      clear he HSTOP HDONE
      by_cases hl : ns.length = 8
      · have ht : S.size = 0 := by omega
        have ht0 : ¬ (0 : Int) < (S.size : Int) := by omega
        obtain ⟨n0, n1, n2, n3, n4, n5, n6, n7, rfl⟩ := ns8 hl
        have hbs := HP.out.2
        have m0 : n0 ≤ 1099511627776 := hbs n0 (by simp)
        have m1 : n1 ≤ 1099511627776 := hbs n1 (by simp)
        have m2 : n2 ≤ 1099511627776 := hbs n2 (by simp)
        have m3 : n3 ≤ 1099511627776 := hbs n3 (by simp)
        have m4 : n4 ≤ 1099511627776 := hbs n4 (by simp)
        have m5 : n5 ≤ 1099511627776 := hbs n5 (by simp)
        have m6 : n6 ≤ 1099511627776 := hbs n6 (by simp)
        have m7 : n7 ≤ 1099511627776 := hbs n7 (by simp)
        clear hbs
        have hown8 : wr.ownsRow w.heap.size 58 1 (.slice A 8 cp) 8 (u64s [n0, n1, n2, n3, n4, n5, n6, n7]) := hown
        obtain ⟨g, hA⟩ := own_addr hown8 (by omega)
        subst hA
        have d0 : wr.cell? ⟨g, 0, none⟩ = some (.int .u64 (n0 : Int)) := by have := World.ownsRow.cells hown8 (g := g) rfl 0 _ (by simp [u64s]; rfl); simpa [Addr.add_lit] using this
        have d1 : wr.cell? ⟨g, 1, none⟩ = some (.int .u64 (n1 : Int)) := by have := World.ownsRow.cells hown8 (g := g) rfl 1 _ (by simp [u64s]; rfl); simpa [Addr.add_lit] using this
        have d2 : wr.cell? ⟨g, 2, none⟩ = some (.int .u64 (n2 : Int)) := by have := World.ownsRow.cells hown8 (g := g) rfl 2 _ (by simp [u64s]; rfl); simpa [Addr.add_lit] using this
        have d3 : wr.cell? ⟨g, 3, none⟩ = some (.int .u64 (n3 : Int)) := by have := World.ownsRow.cells hown8 (g := g) rfl 3 _ (by simp [u64s]; rfl); simpa [Addr.add_lit] using this
        have d4 : wr.cell? ⟨g, 4, none⟩ = some (.int .u64 (n4 : Int)) := by have := World.ownsRow.cells hown8 (g := g) rfl 4 _ (by simp [u64s]; rfl); simpa [Addr.add_lit] using this
        have d5 : wr.cell? ⟨g, 5, none⟩ = some (.int .u64 (n5 : Int)) := by have := World.ownsRow.cells hown8 (g := g) rfl 5 _ (by simp [u64s]; rfl); simpa [Addr.add_lit] using this
        have d6 : wr.cell? ⟨g, 6, none⟩ = some (.int .u64 (n6 : Int)) := by have := World.ownsRow.cells hown8 (g := g) rfl 6 _ (by simp [u64s]; rfl); simpa [Addr.add_lit] using this
        have d7 : wr.cell? ⟨g, 7, none⟩ = some (.int .u64 (n7 : Int)) := by have := World.ownsRow.cells hown8 (g := g) rfl 7 _ (by simp [u64s]; rfl); simpa [Addr.add_lit] using this
        rw [if_pos hl] at HD
        replace HD : F = okOp ⟨(n0 : Int), (n1 : Int), (n2 : Int), (n3 : Int), (n4 : Int), (n5 : Int), (n6 : Int), false, 0, (n7 : Int), 0⟩ := HD
        have cR := hid (fun w => RCheck_c ⟨(n0 : Int), (n1 : Int), (n2 : Int), (n3 : Int), (n4 : Int), (n5 : Int), (n6 : Int), false, 0, (n7 : Int), 0⟩ w)
        dsimp only at cR
        unfold okOp at HD
        clear hl hown hown8 HP
        by_cases hE : checkE ⟨(n0 : Int), (n1 : Int), (n2 : Int), (n3 : Int), (n4 : Int), (n5 : Int), (n6 : Int), false, 0, (n7 : Int), 0⟩ = 0
        · rw [if_pos hE] at HD
          have HG := hid HD
          rw [hE] at cR
          clear hE HD
          go_wp2_with fail
          go_region_held3 (fun w' => w'.cell? ⟨g, 0, none⟩ = some (.int .u64 (n0 : Int)) ∧ w'.cell? ⟨g, 1, none⟩ = some (.int .u64 (n1 : Int)) ∧ w'.cell? ⟨g, 2, none⟩ = some (.int .u64 (n2 : Int)) ∧ w'.cell? ⟨g, 3, none⟩ = some (.int .u64 (n3 : Int)) ∧ w'.cell? ⟨g, 4, none⟩ = some (.int .u64 (n4 : Int)) ∧ w'.cell? ⟨g, 5, none⟩ = some (.int .u64 (n5 : Int)) ∧ w'.cell? ⟨g, 6, none⟩ = some (.int .u64 (n6 : Int)) ∧ w'.cell? ⟨g, 7, none⟩ = some (.int .u64 (n7 : Int))) (go_keep) (fail)
          go_wp2_with fail
          refine (cR.out _).mono ?_
          rintro e w9 ⟨rfl, b9⟩
          have ho : w9.heap[wr.heap.size]? = some (.cells #[.int .i64 (n0 : Int), .int .i64 (n1 : Int), .int .i64 (n2 : Int), .int .i64 (n3 : Int), .int .i64 (n4 : Int), .int .i64 (n5 : Int), .int .i64 (n6 : Int), .bool false, .int .i64 0, .int .i64 (n7 : Int), .int .i64 0] 29 (0, 0)) := b9.heap (heap_new wr (.cells #[.int .i64 (n0 : Int), .int .i64 (n1 : Int), .int .i64 (n2 : Int), .int .i64 (n3 : Int), .int .i64 (n4 : Int), .int .i64 (n5 : Int), .int .i64 (n6 : Int), .bool false, .int .i64 0, .int .i64 (n7 : Int), .int .i64 0] 29))
          have hz : w9.heap[w.heap.size]? = some (.cells #[.int .i64 0, .int .i64 0, .int .i64 0, .int .i64 0, .int .i64 0, .int .i64 0, .int .i64 0, .bool false, .int .i64 0, .int .i64 0, .int .i64 0] 29 (0, 0)) := b9.heap (heap_alloc_keep HZ0.out (.cells #[.int .i64 (n0 : Int), .int .i64 (n1 : Int), .int .i64 (n2 : Int), .int .i64 (n3 : Int), .int .i64 (n4 : Int), .int .i64 (n5 : Int), .int .i64 (n6 : Int), .bool false, .int .i64 0, .int .i64 (n7 : Int), .int .i64 0] 29))
          have G9 : Grow wr w9 := by first | exact Grow.trans (Grow.alloc wr _) b9 | exact Grow.trans (Grow.trans (Grow.alloc wr _) (Grow.drew _)) b9 | exact Grow.trans (Grow.trans (Grow.drew wr) (Grow.alloc _ _)) b9 | exact Grow.trans (Grow.trans (Grow.trans (Grow.alloc wr _) (Grow.drew _)) (Grow.drew _)) b9 | exact Grow.trans (Grow.trans (Grow.alloc wr _) (Grow.drewNG _ _)) b9
          have co0 : w9.cell? ⟨wr.heap.size, 0, none⟩ = some (.int .i64 (n0 : Int)) := by rw [heap_cell ho]; rfl
          have co1 : w9.cell? ⟨wr.heap.size, 1, none⟩ = some (.int .i64 (n1 : Int)) := by rw [heap_cell ho]; rfl
          have co2 : w9.cell? ⟨wr.heap.size, 2, none⟩ = some (.int .i64 (n2 : Int)) := by rw [heap_cell ho]; rfl
          have co3 : w9.cell? ⟨wr.heap.size, 3, none⟩ = some (.int .i64 (n3 : Int)) := by rw [heap_cell ho]; rfl
          have co4 : w9.cell? ⟨wr.heap.size, 4, none⟩ = some (.int .i64 (n4 : Int)) := by rw [heap_cell ho]; rfl
          have co5 : w9.cell? ⟨wr.heap.size, 5, none⟩ = some (.int .i64 (n5 : Int)) := by rw [heap_cell ho]; rfl
          have co6 : w9.cell? ⟨wr.heap.size, 6, none⟩ = some (.int .i64 (n6 : Int)) := by rw [heap_cell ho]; rfl
          have co7 : w9.cell? ⟨wr.heap.size, 7, none⟩ = some (.bool false) := by rw [heap_cell ho]; rfl
          have co8 : w9.cell? ⟨wr.heap.size, 8, none⟩ = some (.int .i64 0) := by rw [heap_cell ho]; rfl
          have co9 : w9.cell? ⟨wr.heap.size, 9, none⟩ = some (.int .i64 (n7 : Int)) := by rw [heap_cell ho]; rfl
          have co10 : w9.cell? ⟨wr.heap.size, 10, none⟩ = some (.int .i64 0) := by rw [heap_cell ho]; rfl
          clear ho
          have cz0 : w9.cell? ⟨w.heap.size, 0, none⟩ = some (.int .i64 0) := by rw [heap_cell hz]; rfl
          have fz0 : w9.frozen? ⟨w.heap.size, 0, none⟩ = false := heap_frozen hz 0 (by omega)
          have cz1 : w9.cell? ⟨w.heap.size, 1, none⟩ = some (.int .i64 0) := by rw [heap_cell hz]; rfl
          have fz1 : w9.frozen? ⟨w.heap.size, 1, none⟩ = false := heap_frozen hz 1 (by omega)
          have cz2 : w9.cell? ⟨w.heap.size, 2, none⟩ = some (.int .i64 0) := by rw [heap_cell hz]; rfl
          have fz2 : w9.frozen? ⟨w.heap.size, 2, none⟩ = false := heap_frozen hz 2 (by omega)
          have cz3 : w9.cell? ⟨w.heap.size, 3, none⟩ = some (.int .i64 0) := by rw [heap_cell hz]; rfl
          have fz3 : w9.frozen? ⟨w.heap.size, 3, none⟩ = false := heap_frozen hz 3 (by omega)
          have cz4 : w9.cell? ⟨w.heap.size, 4, none⟩ = some (.int .i64 0) := by rw [heap_cell hz]; rfl
          have fz4 : w9.frozen? ⟨w.heap.size, 4, none⟩ = false := heap_frozen hz 4 (by omega)
          have cz5 : w9.cell? ⟨w.heap.size, 5, none⟩ = some (.int .i64 0) := by rw [heap_cell hz]; rfl
          have fz5 : w9.frozen? ⟨w.heap.size, 5, none⟩ = false := heap_frozen hz 5 (by omega)
          have cz6 : w9.cell? ⟨w.heap.size, 6, none⟩ = some (.int .i64 0) := by rw [heap_cell hz]; rfl
          have fz6 : w9.frozen? ⟨w.heap.size, 6, none⟩ = false := heap_frozen hz 6 (by omega)
          have cz7 : w9.cell? ⟨w.heap.size, 7, none⟩ = some (.bool false) := by rw [heap_cell hz]; rfl
          have fz7 : w9.frozen? ⟨w.heap.size, 7, none⟩ = false := heap_frozen hz 7 (by omega)
          have cz8 : w9.cell? ⟨w.heap.size, 8, none⟩ = some (.int .i64 0) := by rw [heap_cell hz]; rfl
          have fz8 : w9.frozen? ⟨w.heap.size, 8, none⟩ = false := heap_frozen hz 8 (by omega)
          have cz9 : w9.cell? ⟨w.heap.size, 9, none⟩ = some (.int .i64 0) := by rw [heap_cell hz]; rfl
          have fz9 : w9.frozen? ⟨w.heap.size, 9, none⟩ = false := heap_frozen hz 9 (by omega)
          have cz10 : w9.cell? ⟨w.heap.size, 10, none⟩ = some (.int .i64 0) := by rw [heap_cell hz]; rfl
          have fz10 : w9.frozen? ⟨w.heap.size, 10, none⟩ = false := heap_frozen hz 10 (by omega)
          have HZ := hid hz
          clear hz
          go_wp2_with fail
          (try simp only [Exit.inBlock, Exit.then])
          refine bodyPost_ret (v := .tuple #[.agg #[.int .i64 (n0 : Int), .int .i64 (n1 : Int), .int .i64 (n2 : Int), .int .i64 (n3 : Int), .int .i64 (n4 : Int), .int .i64 (n5 : Int), .int .i64 (n6 : Int), .bool false, .int .i64 0, .int .i64 (n7 : Int), .int .i64 0], .int .i64 0]) ?_ rfl ⟨?_, ?_⟩
          · refine results_row2 (fn := Try.f20) (p := 2) (u := 3) rfl _ _ w.heap.size 29 _ (0, 0) _ rfl ?_ Try.underlying29 rfl ?_
            · exact (heap_setV (heap_setV (heap_setV (heap_setV (heap_setV (heap_setV (heap_setV (heap_setV (heap_setV (heap_setV (heap_setV HZ.out 0 (.int .i64 (n0 : Int)) #[.int .i64 (n0 : Int), .int .i64 0, .int .i64 0, .int .i64 0, .int .i64 0, .int .i64 0, .int .i64 0, .bool false, .int .i64 0, .int .i64 0, .int .i64 0] rfl) 1 (.int .i64 (n1 : Int)) #[.int .i64 (n0 : Int), .int .i64 (n1 : Int), .int .i64 0, .int .i64 0, .int .i64 0, .int .i64 0, .int .i64 0, .bool false, .int .i64 0, .int .i64 0, .int .i64 0] rfl) 2 (.int .i64 (n2 : Int)) #[.int .i64 (n0 : Int), .int .i64 (n1 : Int), .int .i64 (n2 : Int), .int .i64 0, .int .i64 0, .int .i64 0, .int .i64 0, .bool false, .int .i64 0, .int .i64 0, .int .i64 0] rfl) 3 (.int .i64 (n3 : Int)) #[.int .i64 (n0 : Int), .int .i64 (n1 : Int), .int .i64 (n2 : Int), .int .i64 (n3 : Int), .int .i64 0, .int .i64 0, .int .i64 0, .bool false, .int .i64 0, .int .i64 0, .int .i64 0] rfl) 4 (.int .i64 (n4 : Int)) #[.int .i64 (n0 : Int), .int .i64 (n1 : Int), .int .i64 (n2 : Int), .int .i64 (n3 : Int), .int .i64 (n4 : Int), .int .i64 0, .int .i64 0, .bool false, .int .i64 0, .int .i64 0, .int .i64 0] rfl) 5 (.int .i64 (n5 : Int)) #[.int .i64 (n0 : Int), .int .i64 (n1 : Int), .int .i64 (n2 : Int), .int .i64 (n3 : Int), .int .i64 (n4 : Int), .int .i64 (n5 : Int), .int .i64 0, .bool false, .int .i64 0, .int .i64 0, .int .i64 0] rfl) 6 (.int .i64 (n6 : Int)) #[.int .i64 (n0 : Int), .int .i64 (n1 : Int), .int .i64 (n2 : Int), .int .i64 (n3 : Int), .int .i64 (n4 : Int), .int .i64 (n5 : Int), .int .i64 (n6 : Int), .bool false, .int .i64 0, .int .i64 0, .int .i64 0] rfl) 7 (.bool false) #[.int .i64 (n0 : Int), .int .i64 (n1 : Int), .int .i64 (n2 : Int), .int .i64 (n3 : Int), .int .i64 (n4 : Int), .int .i64 (n5 : Int), .int .i64 (n6 : Int), .bool false, .int .i64 0, .int .i64 0, .int .i64 0] rfl) 8 (.int .i64 0) #[.int .i64 (n0 : Int), .int .i64 (n1 : Int), .int .i64 (n2 : Int), .int .i64 (n3 : Int), .int .i64 (n4 : Int), .int .i64 (n5 : Int), .int .i64 (n6 : Int), .bool false, .int .i64 0, .int .i64 0, .int .i64 0] rfl) 9 (.int .i64 (n7 : Int)) #[.int .i64 (n0 : Int), .int .i64 (n1 : Int), .int .i64 (n2 : Int), .int .i64 (n3 : Int), .int .i64 (n4 : Int), .int .i64 (n5 : Int), .int .i64 (n6 : Int), .bool false, .int .i64 0, .int .i64 (n7 : Int), .int .i64 0] rfl) 10 (.int .i64 0) #[.int .i64 (n0 : Int), .int .i64 (n1 : Int), .int .i64 (n2 : Int), .int .i64 (n3 : Int), .int .i64 (n4 : Int), .int .i64 (n5 : Int), .int .i64 (n6 : Int), .bool false, .int .i64 0, .int .i64 (n7 : Int), .int .i64 0] rfl)
            · kernel_rfl
          · rw [HG.out]; rfl
          · have g9 := Grow.trans (Grow.trans (Grow.alloc _ _) hg) G9
            exact (Grow.setD (Grow.setD (Grow.setD (Grow.setD (Grow.setD (Grow.setD (Grow.setD (Grow.setD (Grow.setD (Grow.setD (Grow.setD g9 _ _ (Nat.le_refl _) _) _ _ (Nat.le_refl _) _) _ _ (Nat.le_refl _) _) _ _ (Nat.le_refl _) _) _ _ (Nat.le_refl _) _) _ _ (Nat.le_refl _) _) _ _ (Nat.le_refl _) _) _ _ (Nat.le_refl _) _) _ _ (Nat.le_refl _) _) _ _ (Nat.le_refl _) _) _ _ (Nat.le_refl _) _)
        · rw [if_neg hE] at HD
          have HG := hid HD
          generalize checkE ⟨(n0 : Int), (n1 : Int), (n2 : Int), (n3 : Int), (n4 : Int), (n5 : Int), (n6 : Int), false, 0, (n7 : Int), 0⟩ = E at *
          have q : (E != 0) = true := by rw [bne_iff_ne]; exact hE
          clear hE HD
          go_wp2_with fail
          go_region_held3 (fun w' => w'.cell? ⟨g, 0, none⟩ = some (.int .u64 (n0 : Int)) ∧ w'.cell? ⟨g, 1, none⟩ = some (.int .u64 (n1 : Int)) ∧ w'.cell? ⟨g, 2, none⟩ = some (.int .u64 (n2 : Int)) ∧ w'.cell? ⟨g, 3, none⟩ = some (.int .u64 (n3 : Int)) ∧ w'.cell? ⟨g, 4, none⟩ = some (.int .u64 (n4 : Int)) ∧ w'.cell? ⟨g, 5, none⟩ = some (.int .u64 (n5 : Int)) ∧ w'.cell? ⟨g, 6, none⟩ = some (.int .u64 (n6 : Int)) ∧ w'.cell? ⟨g, 7, none⟩ = some (.int .u64 (n7 : Int))) (go_keep) (fail)
          go_wp2_with fail
          refine (cR.out _).mono ?_
          rintro e w9 ⟨rfl, b9⟩
          have ho : w9.heap[wr.heap.size]? = some (.cells #[.int .i64 (n0 : Int), .int .i64 (n1 : Int), .int .i64 (n2 : Int), .int .i64 (n3 : Int), .int .i64 (n4 : Int), .int .i64 (n5 : Int), .int .i64 (n6 : Int), .bool false, .int .i64 0, .int .i64 (n7 : Int), .int .i64 0] 29 (0, 0)) := b9.heap (heap_new wr (.cells #[.int .i64 (n0 : Int), .int .i64 (n1 : Int), .int .i64 (n2 : Int), .int .i64 (n3 : Int), .int .i64 (n4 : Int), .int .i64 (n5 : Int), .int .i64 (n6 : Int), .bool false, .int .i64 0, .int .i64 (n7 : Int), .int .i64 0] 29))
          have hz : w9.heap[w.heap.size]? = some (.cells #[.int .i64 0, .int .i64 0, .int .i64 0, .int .i64 0, .int .i64 0, .int .i64 0, .int .i64 0, .bool false, .int .i64 0, .int .i64 0, .int .i64 0] 29 (0, 0)) := b9.heap (heap_alloc_keep HZ0.out (.cells #[.int .i64 (n0 : Int), .int .i64 (n1 : Int), .int .i64 (n2 : Int), .int .i64 (n3 : Int), .int .i64 (n4 : Int), .int .i64 (n5 : Int), .int .i64 (n6 : Int), .bool false, .int .i64 0, .int .i64 (n7 : Int), .int .i64 0] 29))
          have G9 : Grow wr w9 := by first | exact Grow.trans (Grow.alloc wr _) b9 | exact Grow.trans (Grow.trans (Grow.alloc wr _) (Grow.drew _)) b9 | exact Grow.trans (Grow.trans (Grow.drew wr) (Grow.alloc _ _)) b9 | exact Grow.trans (Grow.trans (Grow.trans (Grow.alloc wr _) (Grow.drew _)) (Grow.drew _)) b9 | exact Grow.trans (Grow.trans (Grow.alloc wr _) (Grow.drewNG _ _)) b9
          have co0 : w9.cell? ⟨wr.heap.size, 0, none⟩ = some (.int .i64 (n0 : Int)) := by rw [heap_cell ho]; rfl
          have co1 : w9.cell? ⟨wr.heap.size, 1, none⟩ = some (.int .i64 (n1 : Int)) := by rw [heap_cell ho]; rfl
          have co2 : w9.cell? ⟨wr.heap.size, 2, none⟩ = some (.int .i64 (n2 : Int)) := by rw [heap_cell ho]; rfl
          have co3 : w9.cell? ⟨wr.heap.size, 3, none⟩ = some (.int .i64 (n3 : Int)) := by rw [heap_cell ho]; rfl
          have co4 : w9.cell? ⟨wr.heap.size, 4, none⟩ = some (.int .i64 (n4 : Int)) := by rw [heap_cell ho]; rfl
          have co5 : w9.cell? ⟨wr.heap.size, 5, none⟩ = some (.int .i64 (n5 : Int)) := by rw [heap_cell ho]; rfl
          have co6 : w9.cell? ⟨wr.heap.size, 6, none⟩ = some (.int .i64 (n6 : Int)) := by rw [heap_cell ho]; rfl
          have co7 : w9.cell? ⟨wr.heap.size, 7, none⟩ = some (.bool false) := by rw [heap_cell ho]; rfl
          have co8 : w9.cell? ⟨wr.heap.size, 8, none⟩ = some (.int .i64 0) := by rw [heap_cell ho]; rfl
          have co9 : w9.cell? ⟨wr.heap.size, 9, none⟩ = some (.int .i64 (n7 : Int)) := by rw [heap_cell ho]; rfl
          have co10 : w9.cell? ⟨wr.heap.size, 10, none⟩ = some (.int .i64 0) := by rw [heap_cell ho]; rfl
          clear ho
          have cz0 : w9.cell? ⟨w.heap.size, 0, none⟩ = some (.int .i64 0) := by rw [heap_cell hz]; rfl
          have fz0 : w9.frozen? ⟨w.heap.size, 0, none⟩ = false := heap_frozen hz 0 (by omega)
          have cz1 : w9.cell? ⟨w.heap.size, 1, none⟩ = some (.int .i64 0) := by rw [heap_cell hz]; rfl
          have fz1 : w9.frozen? ⟨w.heap.size, 1, none⟩ = false := heap_frozen hz 1 (by omega)
          have cz2 : w9.cell? ⟨w.heap.size, 2, none⟩ = some (.int .i64 0) := by rw [heap_cell hz]; rfl
          have fz2 : w9.frozen? ⟨w.heap.size, 2, none⟩ = false := heap_frozen hz 2 (by omega)
          have cz3 : w9.cell? ⟨w.heap.size, 3, none⟩ = some (.int .i64 0) := by rw [heap_cell hz]; rfl
          have fz3 : w9.frozen? ⟨w.heap.size, 3, none⟩ = false := heap_frozen hz 3 (by omega)
          have cz4 : w9.cell? ⟨w.heap.size, 4, none⟩ = some (.int .i64 0) := by rw [heap_cell hz]; rfl
          have fz4 : w9.frozen? ⟨w.heap.size, 4, none⟩ = false := heap_frozen hz 4 (by omega)
          have cz5 : w9.cell? ⟨w.heap.size, 5, none⟩ = some (.int .i64 0) := by rw [heap_cell hz]; rfl
          have fz5 : w9.frozen? ⟨w.heap.size, 5, none⟩ = false := heap_frozen hz 5 (by omega)
          have cz6 : w9.cell? ⟨w.heap.size, 6, none⟩ = some (.int .i64 0) := by rw [heap_cell hz]; rfl
          have fz6 : w9.frozen? ⟨w.heap.size, 6, none⟩ = false := heap_frozen hz 6 (by omega)
          have cz7 : w9.cell? ⟨w.heap.size, 7, none⟩ = some (.bool false) := by rw [heap_cell hz]; rfl
          have fz7 : w9.frozen? ⟨w.heap.size, 7, none⟩ = false := heap_frozen hz 7 (by omega)
          have cz8 : w9.cell? ⟨w.heap.size, 8, none⟩ = some (.int .i64 0) := by rw [heap_cell hz]; rfl
          have fz8 : w9.frozen? ⟨w.heap.size, 8, none⟩ = false := heap_frozen hz 8 (by omega)
          have cz9 : w9.cell? ⟨w.heap.size, 9, none⟩ = some (.int .i64 0) := by rw [heap_cell hz]; rfl
          have fz9 : w9.frozen? ⟨w.heap.size, 9, none⟩ = false := heap_frozen hz 9 (by omega)
          have cz10 : w9.cell? ⟨w.heap.size, 10, none⟩ = some (.int .i64 0) := by rw [heap_cell hz]; rfl
          have fz10 : w9.frozen? ⟨w.heap.size, 10, none⟩ = false := heap_frozen hz 10 (by omega)
          have HZ := hid hz
          clear hz
          go_wp2_with fail
          (try simp only [Exit.inBlock, Exit.then])
          refine bodyPost_ret (v := .tuple #[.agg #[.int .i64 0, .int .i64 0, .int .i64 0, .int .i64 0, .int .i64 0, .int .i64 0, .int .i64 0, .bool false, .int .i64 0, .int .i64 0, .int .i64 0], .int .i64 14]) ?_ rfl ⟨?_, ?_⟩
          · refine results_row2 (fn := Try.f20) (p := 2) (u := 3) rfl _ _ w.heap.size 29 _ (0, 0) _ rfl ?_ Try.underlying29 rfl ?_
            · exact (heap_setV (heap_setV (heap_setV (heap_setV (heap_setV (heap_setV (heap_setV (heap_setV (heap_setV (heap_setV (heap_setV HZ.out 0 (.int .i64 0) #[.int .i64 0, .int .i64 0, .int .i64 0, .int .i64 0, .int .i64 0, .int .i64 0, .int .i64 0, .bool false, .int .i64 0, .int .i64 0, .int .i64 0] rfl) 1 (.int .i64 0) #[.int .i64 0, .int .i64 0, .int .i64 0, .int .i64 0, .int .i64 0, .int .i64 0, .int .i64 0, .bool false, .int .i64 0, .int .i64 0, .int .i64 0] rfl) 2 (.int .i64 0) #[.int .i64 0, .int .i64 0, .int .i64 0, .int .i64 0, .int .i64 0, .int .i64 0, .int .i64 0, .bool false, .int .i64 0, .int .i64 0, .int .i64 0] rfl) 3 (.int .i64 0) #[.int .i64 0, .int .i64 0, .int .i64 0, .int .i64 0, .int .i64 0, .int .i64 0, .int .i64 0, .bool false, .int .i64 0, .int .i64 0, .int .i64 0] rfl) 4 (.int .i64 0) #[.int .i64 0, .int .i64 0, .int .i64 0, .int .i64 0, .int .i64 0, .int .i64 0, .int .i64 0, .bool false, .int .i64 0, .int .i64 0, .int .i64 0] rfl) 5 (.int .i64 0) #[.int .i64 0, .int .i64 0, .int .i64 0, .int .i64 0, .int .i64 0, .int .i64 0, .int .i64 0, .bool false, .int .i64 0, .int .i64 0, .int .i64 0] rfl) 6 (.int .i64 0) #[.int .i64 0, .int .i64 0, .int .i64 0, .int .i64 0, .int .i64 0, .int .i64 0, .int .i64 0, .bool false, .int .i64 0, .int .i64 0, .int .i64 0] rfl) 7 (.bool false) #[.int .i64 0, .int .i64 0, .int .i64 0, .int .i64 0, .int .i64 0, .int .i64 0, .int .i64 0, .bool false, .int .i64 0, .int .i64 0, .int .i64 0] rfl) 8 (.int .i64 0) #[.int .i64 0, .int .i64 0, .int .i64 0, .int .i64 0, .int .i64 0, .int .i64 0, .int .i64 0, .bool false, .int .i64 0, .int .i64 0, .int .i64 0] rfl) 9 (.int .i64 0) #[.int .i64 0, .int .i64 0, .int .i64 0, .int .i64 0, .int .i64 0, .int .i64 0, .int .i64 0, .bool false, .int .i64 0, .int .i64 0, .int .i64 0] rfl) 10 (.int .i64 0) #[.int .i64 0, .int .i64 0, .int .i64 0, .int .i64 0, .int .i64 0, .int .i64 0, .int .i64 0, .bool false, .int .i64 0, .int .i64 0, .int .i64 0] rfl)
            · kernel_rfl
          · rw [HG.out]; rfl
          · have g9 := Grow.trans (Grow.trans (Grow.alloc _ _) hg) G9
            exact (Grow.setD (Grow.setD (Grow.setD (Grow.setD (Grow.setD (Grow.setD (Grow.setD (Grow.setD (Grow.setD (Grow.setD (Grow.setD g9 _ _ (Nat.le_refl _) _) _ _ (Nat.le_refl _) _) _ _ (Nat.le_refl _) _) _ _ (Nat.le_refl _) _) _ _ (Nat.le_refl _) _) _ _ (Nat.le_refl _) _) _ _ (Nat.le_refl _) _) _ _ (Nat.le_refl _) _) _ _ (Nat.le_refl _) _) _ _ (Nat.le_refl _) _) _ _ (Nat.le_refl _) _)
      · by_cases hl10 : ns.length = 10
        · have hl := hl10
          have ht0 : ¬ (0 : Int) < (S.size : Int) := by omega
          obtain ⟨n0, n1, n2, n3, n4, n5, n6, n7, n8, n9, rfl⟩ := ns10 hl
          have hbs := HP.out.2
          have m0 : n0 ≤ 1099511627776 := hbs n0 (by simp)
          have m1 : n1 ≤ 1099511627776 := hbs n1 (by simp)
          have m2 : n2 ≤ 1099511627776 := hbs n2 (by simp)
          have m3 : n3 ≤ 1099511627776 := hbs n3 (by simp)
          have m4 : n4 ≤ 1099511627776 := hbs n4 (by simp)
          have m5 : n5 ≤ 1099511627776 := hbs n5 (by simp)
          have m6 : n6 ≤ 1099511627776 := hbs n6 (by simp)
          have m7 : n7 ≤ 1099511627776 := hbs n7 (by simp)
          have m8 : n8 ≤ 1099511627776 := hbs n8 (by simp)
          have m9 : n9 ≤ 1099511627776 := hbs n9 (by simp)
          clear hbs
          have hown8 : wr.ownsRow w.heap.size 58 1 (.slice A 10 cp) 10 (u64s [n0, n1, n2, n3, n4, n5, n6, n7, n8, n9]) := hown
          obtain ⟨g, hA⟩ := own_addr hown8 (by omega)
          subst hA
          have d0 : wr.cell? ⟨g, 0, none⟩ = some (.int .u64 (n0 : Int)) := by have := World.ownsRow.cells hown8 (g := g) rfl 0 _ (by simp [u64s]; rfl); simpa [Addr.add_lit] using this
          have d1 : wr.cell? ⟨g, 1, none⟩ = some (.int .u64 (n1 : Int)) := by have := World.ownsRow.cells hown8 (g := g) rfl 1 _ (by simp [u64s]; rfl); simpa [Addr.add_lit] using this
          have d2 : wr.cell? ⟨g, 2, none⟩ = some (.int .u64 (n2 : Int)) := by have := World.ownsRow.cells hown8 (g := g) rfl 2 _ (by simp [u64s]; rfl); simpa [Addr.add_lit] using this
          have d3 : wr.cell? ⟨g, 3, none⟩ = some (.int .u64 (n3 : Int)) := by have := World.ownsRow.cells hown8 (g := g) rfl 3 _ (by simp [u64s]; rfl); simpa [Addr.add_lit] using this
          have d4 : wr.cell? ⟨g, 4, none⟩ = some (.int .u64 (n4 : Int)) := by have := World.ownsRow.cells hown8 (g := g) rfl 4 _ (by simp [u64s]; rfl); simpa [Addr.add_lit] using this
          have d5 : wr.cell? ⟨g, 5, none⟩ = some (.int .u64 (n5 : Int)) := by have := World.ownsRow.cells hown8 (g := g) rfl 5 _ (by simp [u64s]; rfl); simpa [Addr.add_lit] using this
          have d6 : wr.cell? ⟨g, 6, none⟩ = some (.int .u64 (n6 : Int)) := by have := World.ownsRow.cells hown8 (g := g) rfl 6 _ (by simp [u64s]; rfl); simpa [Addr.add_lit] using this
          have d7 : wr.cell? ⟨g, 7, none⟩ = some (.int .u64 (n7 : Int)) := by have := World.ownsRow.cells hown8 (g := g) rfl 7 _ (by simp [u64s]; rfl); simpa [Addr.add_lit] using this
          have d8 : wr.cell? ⟨g, 8, none⟩ = some (.int .u64 (n8 : Int)) := by have := World.ownsRow.cells hown8 (g := g) rfl 8 _ (by simp [u64s]; rfl); simpa [Addr.add_lit] using this
          have d9 : wr.cell? ⟨g, 9, none⟩ = some (.int .u64 (n9 : Int)) := by have := World.ownsRow.cells hown8 (g := g) rfl 9 _ (by simp [u64s]; rfl); simpa [Addr.add_lit] using this
          rw [if_neg (by simp), if_pos hl] at HD
          have hub : -9223372036854775808 ≤ unfoldV (n9 : Int) ∧ unfoldV (n9 : Int) ≤ 9223372036854775807 := by unfold unfoldV; split <;> omega
          have cu := hid (fun w => calls_flipR (RUnfold_c (n9 : Int) w (by omega) (by omega)))
          replace HD : F = okOp ⟨(n0 : Int), (n1 : Int), (n2 : Int), (n3 : Int), (n4 : Int), (n5 : Int), (n6 : Int), true, unfoldV (n9 : Int), (n7 : Int), ((n7 : Int) + (n8 : Int))⟩ := HD
          generalize unfoldV (n9 : Int) = X at *
          have cR := hid (fun w => RCheck_c ⟨(n0 : Int), (n1 : Int), (n2 : Int), (n3 : Int), (n4 : Int), (n5 : Int), (n6 : Int), true, X, (n7 : Int), ((n7 : Int) + (n8 : Int))⟩ w)
          dsimp only at cR
          unfold okOp at HD
          clear hl hown hown8 HP
          by_cases hE : checkE ⟨(n0 : Int), (n1 : Int), (n2 : Int), (n3 : Int), (n4 : Int), (n5 : Int), (n6 : Int), true, X, (n7 : Int), ((n7 : Int) + (n8 : Int))⟩ = 0
          · rw [if_pos hE] at HD
            have HG := hid HD
            rw [hE] at cR
            clear hE HD
            have hgl := World.block_lt_of_cell? wr _ d0
            simp only at hgl
            go_wp2_with fail
            go_region_held3 (fun w' => w'.cell? ⟨g, 0, none⟩ = some (.int .u64 (n0 : Int)) ∧ w'.cell? ⟨g, 1, none⟩ = some (.int .u64 (n1 : Int)) ∧ w'.cell? ⟨g, 2, none⟩ = some (.int .u64 (n2 : Int)) ∧ w'.cell? ⟨g, 3, none⟩ = some (.int .u64 (n3 : Int)) ∧ w'.cell? ⟨g, 4, none⟩ = some (.int .u64 (n4 : Int)) ∧ w'.cell? ⟨g, 5, none⟩ = some (.int .u64 (n5 : Int)) ∧ w'.cell? ⟨g, 6, none⟩ = some (.int .u64 (n6 : Int)) ∧ w'.cell? ⟨g, 7, none⟩ = some (.int .u64 (n7 : Int)) ∧ w'.cell? ⟨g, 8, none⟩ = some (.int .u64 (n8 : Int)) ∧ w'.cell? ⟨g, 9, none⟩ = some (.int .u64 (n9 : Int))) (go_keep) (fail)
            go_wp2_with fail
            go_region_held3 (fun w' => w'.cell? ⟨g, 8, none⟩ = some (.int .u64 (n8 : Int)) ∧ w'.cell? ⟨g, 9, none⟩ = some (.int .u64 (n9 : Int)) ∧ w'.cell? ⟨wr.heap.size, 9, none⟩ = some (.int .i64 (n7 : Int))) (first | go_keep | (refine ⟨?_, ?_, ?_⟩ <;> go_simp))
              ((go_at_call 35; refine (cu.out _).mono ?_; rintro e w2 ⟨rfl, rfl⟩))
            go_wp2_with fail
            refine (cR.out _).mono ?_
            rintro e w9 ⟨rfl, b9⟩
            have ho : w9.heap[wr.heap.size]? = some (.cells #[.int .i64 (n0 : Int), .int .i64 (n1 : Int), .int .i64 (n2 : Int), .int .i64 (n3 : Int), .int .i64 (n4 : Int), .int .i64 (n5 : Int), .int .i64 (n6 : Int), .bool true, .int .i64 X, .int .i64 (n7 : Int), .int .i64 ((n7 : Int) + (n8 : Int))] 29 (0, 0)) := b9.heap (heap_new wr (.cells #[.int .i64 (n0 : Int), .int .i64 (n1 : Int), .int .i64 (n2 : Int), .int .i64 (n3 : Int), .int .i64 (n4 : Int), .int .i64 (n5 : Int), .int .i64 (n6 : Int), .bool true, .int .i64 X, .int .i64 (n7 : Int), .int .i64 ((n7 : Int) + (n8 : Int))] 29))
            have hz : w9.heap[w.heap.size]? = some (.cells #[.int .i64 0, .int .i64 0, .int .i64 0, .int .i64 0, .int .i64 0, .int .i64 0, .int .i64 0, .bool false, .int .i64 0, .int .i64 0, .int .i64 0] 29 (0, 0)) := b9.heap (heap_alloc_keep HZ0.out (.cells #[.int .i64 (n0 : Int), .int .i64 (n1 : Int), .int .i64 (n2 : Int), .int .i64 (n3 : Int), .int .i64 (n4 : Int), .int .i64 (n5 : Int), .int .i64 (n6 : Int), .bool true, .int .i64 X, .int .i64 (n7 : Int), .int .i64 ((n7 : Int) + (n8 : Int))] 29))
            have G9 : Grow wr w9 := by first | exact Grow.trans (Grow.alloc wr _) b9 | exact Grow.trans (Grow.trans (Grow.alloc wr _) (Grow.drew _)) b9 | exact Grow.trans (Grow.trans (Grow.drew wr) (Grow.alloc _ _)) b9 | exact Grow.trans (Grow.trans (Grow.trans (Grow.alloc wr _) (Grow.drew _)) (Grow.drew _)) b9 | exact Grow.trans (Grow.trans (Grow.alloc wr _) (Grow.drewNG _ _)) b9
            have co0 : w9.cell? ⟨wr.heap.size, 0, none⟩ = some (.int .i64 (n0 : Int)) := by rw [heap_cell ho]; rfl
            have co1 : w9.cell? ⟨wr.heap.size, 1, none⟩ = some (.int .i64 (n1 : Int)) := by rw [heap_cell ho]; rfl
            have co2 : w9.cell? ⟨wr.heap.size, 2, none⟩ = some (.int .i64 (n2 : Int)) := by rw [heap_cell ho]; rfl
            have co3 : w9.cell? ⟨wr.heap.size, 3, none⟩ = some (.int .i64 (n3 : Int)) := by rw [heap_cell ho]; rfl
            have co4 : w9.cell? ⟨wr.heap.size, 4, none⟩ = some (.int .i64 (n4 : Int)) := by rw [heap_cell ho]; rfl
            have co5 : w9.cell? ⟨wr.heap.size, 5, none⟩ = some (.int .i64 (n5 : Int)) := by rw [heap_cell ho]; rfl
            have co6 : w9.cell? ⟨wr.heap.size, 6, none⟩ = some (.int .i64 (n6 : Int)) := by rw [heap_cell ho]; rfl
            have co7 : w9.cell? ⟨wr.heap.size, 7, none⟩ = some (.bool true) := by rw [heap_cell ho]; rfl
            have co8 : w9.cell? ⟨wr.heap.size, 8, none⟩ = some (.int .i64 X) := by rw [heap_cell ho]; rfl
            have co9 : w9.cell? ⟨wr.heap.size, 9, none⟩ = some (.int .i64 (n7 : Int)) := by rw [heap_cell ho]; rfl
            have co10 : w9.cell? ⟨wr.heap.size, 10, none⟩ = some (.int .i64 ((n7 : Int) + (n8 : Int))) := by rw [heap_cell ho]; rfl
            clear ho
            have cz0 : w9.cell? ⟨w.heap.size, 0, none⟩ = some (.int .i64 0) := by rw [heap_cell hz]; rfl
            have fz0 : w9.frozen? ⟨w.heap.size, 0, none⟩ = false := heap_frozen hz 0 (by omega)
            have cz1 : w9.cell? ⟨w.heap.size, 1, none⟩ = some (.int .i64 0) := by rw [heap_cell hz]; rfl
            have fz1 : w9.frozen? ⟨w.heap.size, 1, none⟩ = false := heap_frozen hz 1 (by omega)
            have cz2 : w9.cell? ⟨w.heap.size, 2, none⟩ = some (.int .i64 0) := by rw [heap_cell hz]; rfl
            have fz2 : w9.frozen? ⟨w.heap.size, 2, none⟩ = false := heap_frozen hz 2 (by omega)
            have cz3 : w9.cell? ⟨w.heap.size, 3, none⟩ = some (.int .i64 0) := by rw [heap_cell hz]; rfl
            have fz3 : w9.frozen? ⟨w.heap.size, 3, none⟩ = false := heap_frozen hz 3 (by omega)
            have cz4 : w9.cell? ⟨w.heap.size, 4, none⟩ = some (.int .i64 0) := by rw [heap_cell hz]; rfl
            have fz4 : w9.frozen? ⟨w.heap.size, 4, none⟩ = false := heap_frozen hz 4 (by omega)
            have cz5 : w9.cell? ⟨w.heap.size, 5, none⟩ = some (.int .i64 0) := by rw [heap_cell hz]; rfl
            have fz5 : w9.frozen? ⟨w.heap.size, 5, none⟩ = false := heap_frozen hz 5 (by omega)
            have cz6 : w9.cell? ⟨w.heap.size, 6, none⟩ = some (.int .i64 0) := by rw [heap_cell hz]; rfl
            have fz6 : w9.frozen? ⟨w.heap.size, 6, none⟩ = false := heap_frozen hz 6 (by omega)
            have cz7 : w9.cell? ⟨w.heap.size, 7, none⟩ = some (.bool false) := by rw [heap_cell hz]; rfl
            have fz7 : w9.frozen? ⟨w.heap.size, 7, none⟩ = false := heap_frozen hz 7 (by omega)
            have cz8 : w9.cell? ⟨w.heap.size, 8, none⟩ = some (.int .i64 0) := by rw [heap_cell hz]; rfl
            have fz8 : w9.frozen? ⟨w.heap.size, 8, none⟩ = false := heap_frozen hz 8 (by omega)
            have cz9 : w9.cell? ⟨w.heap.size, 9, none⟩ = some (.int .i64 0) := by rw [heap_cell hz]; rfl
            have fz9 : w9.frozen? ⟨w.heap.size, 9, none⟩ = false := heap_frozen hz 9 (by omega)
            have cz10 : w9.cell? ⟨w.heap.size, 10, none⟩ = some (.int .i64 0) := by rw [heap_cell hz]; rfl
            have fz10 : w9.frozen? ⟨w.heap.size, 10, none⟩ = false := heap_frozen hz 10 (by omega)
            have HZ := hid hz
            clear hz
            go_wp2_with fail
            (try simp only [Exit.inBlock, Exit.then])
            refine bodyPost_ret (v := .tuple #[.agg #[.int .i64 (n0 : Int), .int .i64 (n1 : Int), .int .i64 (n2 : Int), .int .i64 (n3 : Int), .int .i64 (n4 : Int), .int .i64 (n5 : Int), .int .i64 (n6 : Int), .bool true, .int .i64 X, .int .i64 (n7 : Int), .int .i64 ((n7 : Int) + (n8 : Int))], .int .i64 0]) ?_ rfl ⟨?_, ?_⟩
            · refine results_row2 (fn := Try.f20) (p := 2) (u := 3) rfl _ _ w.heap.size 29 _ (0, 0) _ rfl ?_ Try.underlying29 rfl ?_
              · exact (heap_setV (heap_setV (heap_setV (heap_setV (heap_setV (heap_setV (heap_setV (heap_setV (heap_setV (heap_setV (heap_setV HZ.out 0 (.int .i64 (n0 : Int)) #[.int .i64 (n0 : Int), .int .i64 0, .int .i64 0, .int .i64 0, .int .i64 0, .int .i64 0, .int .i64 0, .bool false, .int .i64 0, .int .i64 0, .int .i64 0] rfl) 1 (.int .i64 (n1 : Int)) #[.int .i64 (n0 : Int), .int .i64 (n1 : Int), .int .i64 0, .int .i64 0, .int .i64 0, .int .i64 0, .int .i64 0, .bool false, .int .i64 0, .int .i64 0, .int .i64 0] rfl) 2 (.int .i64 (n2 : Int)) #[.int .i64 (n0 : Int), .int .i64 (n1 : Int), .int .i64 (n2 : Int), .int .i64 0, .int .i64 0, .int .i64 0, .int .i64 0, .bool false, .int .i64 0, .int .i64 0, .int .i64 0] rfl) 3 (.int .i64 (n3 : Int)) #[.int .i64 (n0 : Int), .int .i64 (n1 : Int), .int .i64 (n2 : Int), .int .i64 (n3 : Int), .int .i64 0, .int .i64 0, .int .i64 0, .bool false, .int .i64 0, .int .i64 0, .int .i64 0] rfl) 4 (.int .i64 (n4 : Int)) #[.int .i64 (n0 : Int), .int .i64 (n1 : Int), .int .i64 (n2 : Int), .int .i64 (n3 : Int), .int .i64 (n4 : Int), .int .i64 0, .int .i64 0, .bool false, .int .i64 0, .int .i64 0, .int .i64 0] rfl) 5 (.int .i64 (n5 : Int)) #[.int .i64 (n0 : Int), .int .i64 (n1 : Int), .int .i64 (n2 : Int), .int .i64 (n3 : Int), .int .i64 (n4 : Int), .int .i64 (n5 : Int), .int .i64 0, .bool false, .int .i64 0, .int .i64 0, .int .i64 0] rfl) 6 (.int .i64 (n6 : Int)) #[.int .i64 (n0 : Int), .int .i64 (n1 : Int), .int .i64 (n2 : Int), .int .i64 (n3 : Int), .int .i64 (n4 : Int), .int .i64 (n5 : Int), .int .i64 (n6 : Int), .bool false, .int .i64 0, .int .i64 0, .int .i64 0] rfl) 7 (.bool true) #[.int .i64 (n0 : Int), .int .i64 (n1 : Int), .int .i64 (n2 : Int), .int .i64 (n3 : Int), .int .i64 (n4 : Int), .int .i64 (n5 : Int), .int .i64 (n6 : Int), .bool true, .int .i64 0, .int .i64 0, .int .i64 0] rfl) 8 (.int .i64 X) #[.int .i64 (n0 : Int), .int .i64 (n1 : Int), .int .i64 (n2 : Int), .int .i64 (n3 : Int), .int .i64 (n4 : Int), .int .i64 (n5 : Int), .int .i64 (n6 : Int), .bool true, .int .i64 X, .int .i64 0, .int .i64 0] rfl) 9 (.int .i64 (n7 : Int)) #[.int .i64 (n0 : Int), .int .i64 (n1 : Int), .int .i64 (n2 : Int), .int .i64 (n3 : Int), .int .i64 (n4 : Int), .int .i64 (n5 : Int), .int .i64 (n6 : Int), .bool true, .int .i64 X, .int .i64 (n7 : Int), .int .i64 0] rfl) 10 (.int .i64 ((n7 : Int) + (n8 : Int))) #[.int .i64 (n0 : Int), .int .i64 (n1 : Int), .int .i64 (n2 : Int), .int .i64 (n3 : Int), .int .i64 (n4 : Int), .int .i64 (n5 : Int), .int .i64 (n6 : Int), .bool true, .int .i64 X, .int .i64 (n7 : Int), .int .i64 ((n7 : Int) + (n8 : Int))] rfl)
              · kernel_rfl
            · rw [HG.out]; rfl
            · have g9 := Grow.trans (Grow.trans (Grow.alloc _ _) hg) G9
              exact (Grow.setD (Grow.setD (Grow.setD (Grow.setD (Grow.setD (Grow.setD (Grow.setD (Grow.setD (Grow.setD (Grow.setD (Grow.setD g9 _ _ (Nat.le_refl _) _) _ _ (Nat.le_refl _) _) _ _ (Nat.le_refl _) _) _ _ (Nat.le_refl _) _) _ _ (Nat.le_refl _) _) _ _ (Nat.le_refl _) _) _ _ (Nat.le_refl _) _) _ _ (Nat.le_refl _) _) _ _ (Nat.le_refl _) _) _ _ (Nat.le_refl _) _) _ _ (Nat.le_refl _) _)
          · rw [if_neg hE] at HD
            have HG := hid HD
            generalize checkE ⟨(n0 : Int), (n1 : Int), (n2 : Int), (n3 : Int), (n4 : Int), (n5 : Int), (n6 : Int), true, X, (n7 : Int), ((n7 : Int) + (n8 : Int))⟩ = E at *
            have q : (E != 0) = true := by rw [bne_iff_ne]; exact hE
            clear hE HD
            have hgl := World.block_lt_of_cell? wr _ d0
            simp only at hgl
            go_wp2_with fail
            go_region_held3 (fun w' => w'.cell? ⟨g, 0, none⟩ = some (.int .u64 (n0 : Int)) ∧ w'.cell? ⟨g, 1, none⟩ = some (.int .u64 (n1 : Int)) ∧ w'.cell? ⟨g, 2, none⟩ = some (.int .u64 (n2 : Int)) ∧ w'.cell? ⟨g, 3, none⟩ = some (.int .u64 (n3 : Int)) ∧ w'.cell? ⟨g, 4, none⟩ = some (.int .u64 (n4 : Int)) ∧ w'.cell? ⟨g, 5, none⟩ = some (.int .u64 (n5 : Int)) ∧ w'.cell? ⟨g, 6, none⟩ = some (.int .u64 (n6 : Int)) ∧ w'.cell? ⟨g, 7, none⟩ = some (.int .u64 (n7 : Int)) ∧ w'.cell? ⟨g, 8, none⟩ = some (.int .u64 (n8 : Int)) ∧ w'.cell? ⟨g, 9, none⟩ = some (.int .u64 (n9 : Int))) (go_keep) (fail)
            go_wp2_with fail
            go_region_held3 (fun w' => w'.cell? ⟨g, 8, none⟩ = some (.int .u64 (n8 : Int)) ∧ w'.cell? ⟨g, 9, none⟩ = some (.int .u64 (n9 : Int)) ∧ w'.cell? ⟨wr.heap.size, 9, none⟩ = some (.int .i64 (n7 : Int))) (first | go_keep | (refine ⟨?_, ?_, ?_⟩ <;> go_simp))
              ((go_at_call 35; refine (cu.out _).mono ?_; rintro e w2 ⟨rfl, rfl⟩))
            go_wp2_with fail
            refine (cR.out _).mono ?_
            rintro e w9 ⟨rfl, b9⟩
            have ho : w9.heap[wr.heap.size]? = some (.cells #[.int .i64 (n0 : Int), .int .i64 (n1 : Int), .int .i64 (n2 : Int), .int .i64 (n3 : Int), .int .i64 (n4 : Int), .int .i64 (n5 : Int), .int .i64 (n6 : Int), .bool true, .int .i64 X, .int .i64 (n7 : Int), .int .i64 ((n7 : Int) + (n8 : Int))] 29 (0, 0)) := b9.heap (heap_new wr (.cells #[.int .i64 (n0 : Int), .int .i64 (n1 : Int), .int .i64 (n2 : Int), .int .i64 (n3 : Int), .int .i64 (n4 : Int), .int .i64 (n5 : Int), .int .i64 (n6 : Int), .bool true, .int .i64 X, .int .i64 (n7 : Int), .int .i64 ((n7 : Int) + (n8 : Int))] 29))
            have hz : w9.heap[w.heap.size]? = some (.cells #[.int .i64 0, .int .i64 0, .int .i64 0, .int .i64 0, .int .i64 0, .int .i64 0, .int .i64 0, .bool false, .int .i64 0, .int .i64 0, .int .i64 0] 29 (0, 0)) := b9.heap (heap_alloc_keep HZ0.out (.cells #[.int .i64 (n0 : Int), .int .i64 (n1 : Int), .int .i64 (n2 : Int), .int .i64 (n3 : Int), .int .i64 (n4 : Int), .int .i64 (n5 : Int), .int .i64 (n6 : Int), .bool true, .int .i64 X, .int .i64 (n7 : Int), .int .i64 ((n7 : Int) + (n8 : Int))] 29))
            have G9 : Grow wr w9 := by first | exact Grow.trans (Grow.alloc wr _) b9 | exact Grow.trans (Grow.trans (Grow.alloc wr _) (Grow.drew _)) b9 | exact Grow.trans (Grow.trans (Grow.drew wr) (Grow.alloc _ _)) b9 | exact Grow.trans (Grow.trans (Grow.trans (Grow.alloc wr _) (Grow.drew _)) (Grow.drew _)) b9 | exact Grow.trans (Grow.trans (Grow.alloc wr _) (Grow.drewNG _ _)) b9
            have co0 : w9.cell? ⟨wr.heap.size, 0, none⟩ = some (.int .i64 (n0 : Int)) := by rw [heap_cell ho]; rfl
            have co1 : w9.cell? ⟨wr.heap.size, 1, none⟩ = some (.int .i64 (n1 : Int)) := by rw [heap_cell ho]; rfl
            have co2 : w9.cell? ⟨wr.heap.size, 2, none⟩ = some (.int .i64 (n2 : Int)) := by rw [heap_cell ho]; rfl
            have co3 : w9.cell? ⟨wr.heap.size, 3, none⟩ = some (.int .i64 (n3 : Int)) := by rw [heap_cell ho]; rfl
            have co4 : w9.cell? ⟨wr.heap.size, 4, none⟩ = some (.int .i64 (n4 : Int)) := by rw [heap_cell ho]; rfl
            have co5 : w9.cell? ⟨wr.heap.size, 5, none⟩ = some (.int .i64 (n5 : Int)) := by rw [heap_cell ho]; rfl
            have co6 : w9.cell? ⟨wr.heap.size, 6, none⟩ = some (.int .i64 (n6 : Int)) := by rw [heap_cell ho]; rfl
            have co7 : w9.cell? ⟨wr.heap.size, 7, none⟩ = some (.bool true) := by rw [heap_cell ho]; rfl
            have co8 : w9.cell? ⟨wr.heap.size, 8, none⟩ = some (.int .i64 X) := by rw [heap_cell ho]; rfl
            have co9 : w9.cell? ⟨wr.heap.size, 9, none⟩ = some (.int .i64 (n7 : Int)) := by rw [heap_cell ho]; rfl
            have co10 : w9.cell? ⟨wr.heap.size, 10, none⟩ = some (.int .i64 ((n7 : Int) + (n8 : Int))) := by rw [heap_cell ho]; rfl
            clear ho
            have cz0 : w9.cell? ⟨w.heap.size, 0, none⟩ = some (.int .i64 0) := by rw [heap_cell hz]; rfl
            have fz0 : w9.frozen? ⟨w.heap.size, 0, none⟩ = false := heap_frozen hz 0 (by omega)
            have cz1 : w9.cell? ⟨w.heap.size, 1, none⟩ = some (.int .i64 0) := by rw [heap_cell hz]; rfl
            have fz1 : w9.frozen? ⟨w.heap.size, 1, none⟩ = false := heap_frozen hz 1 (by omega)
            have cz2 : w9.cell? ⟨w.heap.size, 2, none⟩ = some (.int .i64 0) := by rw [heap_cell hz]; rfl
            have fz2 : w9.frozen? ⟨w.heap.size, 2, none⟩ = false := heap_frozen hz 2 (by omega)
            have cz3 : w9.cell? ⟨w.heap.size, 3, none⟩ = some (.int .i64 0) := by rw [heap_cell hz]; rfl
            have fz3 : w9.frozen? ⟨w.heap.size, 3, none⟩ = false := heap_frozen hz 3 (by omega)
            have cz4 : w9.cell? ⟨w.heap.size, 4, none⟩ = some (.int .i64 0) := by rw [heap_cell hz]; rfl
            have fz4 : w9.frozen? ⟨w.heap.size, 4, none⟩ = false := heap_frozen hz 4 (by omega)
            have cz5 : w9.cell? ⟨w.heap.size, 5, none⟩ = some (.int .i64 0) := by rw [heap_cell hz]; rfl
            have fz5 : w9.frozen? ⟨w.heap.size, 5, none⟩ = false := heap_frozen hz 5 (by omega)
            have cz6 : w9.cell? ⟨w.heap.size, 6, none⟩ = some (.int .i64 0) := by rw [heap_cell hz]; rfl
            have fz6 : w9.frozen? ⟨w.heap.size, 6, none⟩ = false := heap_frozen hz 6 (by omega)
            have cz7 : w9.cell? ⟨w.heap.size, 7, none⟩ = some (.bool false) := by rw [heap_cell hz]; rfl
            have fz7 : w9.frozen? ⟨w.heap.size, 7, none⟩ = false := heap_frozen hz 7 (by omega)
            have cz8 : w9.cell? ⟨w.heap.size, 8, none⟩ = some (.int .i64 0) := by rw [heap_cell hz]; rfl
            have fz8 : w9.frozen? ⟨w.heap.size, 8, none⟩ = false := heap_frozen hz 8 (by omega)
            have cz9 : w9.cell? ⟨w.heap.size, 9, none⟩ = some (.int .i64 0) := by rw [heap_cell hz]; rfl
            have fz9 : w9.frozen? ⟨w.heap.size, 9, none⟩ = false := heap_frozen hz 9 (by omega)
            have cz10 : w9.cell? ⟨w.heap.size, 10, none⟩ = some (.int .i64 0) := by rw [heap_cell hz]; rfl
            have fz10 : w9.frozen? ⟨w.heap.size, 10, none⟩ = false := heap_frozen hz 10 (by omega)
            have HZ := hid hz
            clear hz
            go_wp2_with fail
            (try simp only [Exit.inBlock, Exit.then])
            refine bodyPost_ret (v := .tuple #[.agg #[.int .i64 0, .int .i64 0, .int .i64 0, .int .i64 0, .int .i64 0, .int .i64 0, .int .i64 0, .bool false, .int .i64 0, .int .i64 0, .int .i64 0], .int .i64 14]) ?_ rfl ⟨?_, ?_⟩
            · refine results_row2 (fn := Try.f20) (p := 2) (u := 3) rfl _ _ w.heap.size 29 _ (0, 0) _ rfl ?_ Try.underlying29 rfl ?_
              · exact (heap_setV (heap_setV (heap_setV (heap_setV (heap_setV (heap_setV (heap_setV (heap_setV (heap_setV (heap_setV (heap_setV HZ.out 0 (.int .i64 0) #[.int .i64 0, .int .i64 0, .int .i64 0, .int .i64 0, .int .i64 0, .int .i64 0, .int .i64 0, .bool false, .int .i64 0, .int .i64 0, .int .i64 0] rfl) 1 (.int .i64 0) #[.int .i64 0, .int .i64 0, .int .i64 0, .int .i64 0, .int .i64 0, .int .i64 0, .int .i64 0, .bool false, .int .i64 0, .int .i64 0, .int .i64 0] rfl) 2 (.int .i64 0) #[.int .i64 0, .int .i64 0, .int .i64 0, .int .i64 0, .int .i64 0, .int .i64 0, .int .i64 0, .bool false, .int .i64 0, .int .i64 0, .int .i64 0] rfl) 3 (.int .i64 0) #[.int .i64 0, .int .i64 0, .int .i64 0, .int .i64 0, .int .i64 0, .int .i64 0, .int .i64 0, .bool false, .int .i64 0, .int .i64 0, .int .i64 0] rfl) 4 (.int .i64 0) #[.int .i64 0, .int .i64 0, .int .i64 0, .int .i64 0, .int .i64 0, .int .i64 0, .int .i64 0, .bool false, .int .i64 0, .int .i64 0, .int .i64 0] rfl) 5 (.int .i64 0) #[.int .i64 0, .int .i64 0, .int .i64 0, .int .i64 0, .int .i64 0, .int .i64 0, .int .i64 0, .bool false, .int .i64 0, .int .i64 0, .int .i64 0] rfl) 6 (.int .i64 0) #[.int .i64 0, .int .i64 0, .int .i64 0, .int .i64 0, .int .i64 0, .int .i64 0, .int .i64 0, .bool false, .int .i64 0, .int .i64 0, .int .i64 0] rfl) 7 (.bool false) #[.int .i64 0, .int .i64 0, .int .i64 0, .int .i64 0, .int .i64 0, .int .i64 0, .int .i64 0, .bool false, .int .i64 0, .int .i64 0, .int .i64 0] rfl) 8 (.int .i64 0) #[.int .i64 0, .int .i64 0, .int .i64 0, .int .i64 0, .int .i64 0, .int .i64 0, .int .i64 0, .bool false, .int .i64 0, .int .i64 0, .int .i64 0] rfl) 9 (.int .i64 0) #[.int .i64 0, .int .i64 0, .int .i64 0, .int .i64 0, .int .i64 0, .int .i64 0, .int .i64 0, .bool false, .int .i64 0, .int .i64 0, .int .i64 0] rfl) 10 (.int .i64 0) #[.int .i64 0, .int .i64 0, .int .i64 0, .int .i64 0, .int .i64 0, .int .i64 0, .int .i64 0, .bool false, .int .i64 0, .int .i64 0, .int .i64 0] rfl)
              · kernel_rfl
            · rw [HG.out]; rfl
            · have g9 := Grow.trans (Grow.trans (Grow.alloc _ _) hg) G9
              exact (Grow.setD (Grow.setD (Grow.setD (Grow.setD (Grow.setD (Grow.setD (Grow.setD (Grow.setD (Grow.setD (Grow.setD (Grow.setD g9 _ _ (Nat.le_refl _) _) _ _ (Nat.le_refl _) _) _ _ (Nat.le_refl _) _) _ _ (Nat.le_refl _) _) _ _ (Nat.le_refl _) _) _ _ (Nat.le_refl _) _) _ _ (Nat.le_refl _) _) _ _ (Nat.le_refl _) _) _ _ (Nat.le_refl _) _) _ _ (Nat.le_refl _) _) _ _ (Nat.le_refl _) _)
        · rw [if_neg hl, if_neg hl10] at HD
          have HN := hid HD
          have e8 : ((ns.length : Int) != 8) = true := by rw [bne_iff_ne]; omega
          have e10 : ((ns.length : Int) != 10) = true := by rw [bne_iff_ne]; omega
          have hz := HZ0.out
          clear HD hgo hl hl10
          rcases ht with t1 | ⟨t1, t2⟩
          all_goals
            have cz0 : wr.cell? ⟨w.heap.size, 0, none⟩ = some (.int .i64 0) := by rw [heap_cell hz]; rfl
            have fz0 : wr.frozen? ⟨w.heap.size, 0, none⟩ = false := heap_frozen hz 0 (by omega)
            have cz1 : wr.cell? ⟨w.heap.size, 1, none⟩ = some (.int .i64 0) := by rw [heap_cell hz]; rfl
            have fz1 : wr.frozen? ⟨w.heap.size, 1, none⟩ = false := heap_frozen hz 1 (by omega)
            have cz2 : wr.cell? ⟨w.heap.size, 2, none⟩ = some (.int .i64 0) := by rw [heap_cell hz]; rfl
            have fz2 : wr.frozen? ⟨w.heap.size, 2, none⟩ = false := heap_frozen hz 2 (by omega)
            have cz3 : wr.cell? ⟨w.heap.size, 3, none⟩ = some (.int .i64 0) := by rw [heap_cell hz]; rfl
            have fz3 : wr.frozen? ⟨w.heap.size, 3, none⟩ = false := heap_frozen hz 3 (by omega)
            have cz4 : wr.cell? ⟨w.heap.size, 4, none⟩ = some (.int .i64 0) := by rw [heap_cell hz]; rfl
            have fz4 : wr.frozen? ⟨w.heap.size, 4, none⟩ = false := heap_frozen hz 4 (by omega)
            have cz5 : wr.cell? ⟨w.heap.size, 5, none⟩ = some (.int .i64 0) := by rw [heap_cell hz]; rfl
            have fz5 : wr.frozen? ⟨w.heap.size, 5, none⟩ = false := heap_frozen hz 5 (by omega)
            have cz6 : wr.cell? ⟨w.heap.size, 6, none⟩ = some (.int .i64 0) := by rw [heap_cell hz]; rfl
            have fz6 : wr.frozen? ⟨w.heap.size, 6, none⟩ = false := heap_frozen hz 6 (by omega)
            have cz7 : wr.cell? ⟨w.heap.size, 7, none⟩ = some (.bool false) := by rw [heap_cell hz]; rfl
            have fz7 : wr.frozen? ⟨w.heap.size, 7, none⟩ = false := heap_frozen hz 7 (by omega)
            have cz8 : wr.cell? ⟨w.heap.size, 8, none⟩ = some (.int .i64 0) := by rw [heap_cell hz]; rfl
            have fz8 : wr.frozen? ⟨w.heap.size, 8, none⟩ = false := heap_frozen hz 8 (by omega)
            have cz9 : wr.cell? ⟨w.heap.size, 9, none⟩ = some (.int .i64 0) := by rw [heap_cell hz]; rfl
            have fz9 : wr.frozen? ⟨w.heap.size, 9, none⟩ = false := heap_frozen hz 9 (by omega)
            have cz10 : wr.cell? ⟨w.heap.size, 10, none⟩ = some (.int .i64 0) := by rw [heap_cell hz]; rfl
            have fz10 : wr.frozen? ⟨w.heap.size, 10, none⟩ = false := heap_frozen hz 10 (by omega)
            have HZ := hid hz
            clear hz
            go_wp2_with fail
            (try simp only [Exit.inBlock, Exit.then])
            refine bodyPost_ret (v := .tuple #[.agg #[.int .i64 0, .int .i64 0, .int .i64 0, .int .i64 0, .int .i64 0, .int .i64 0, .int .i64 0, .bool false, .int .i64 0, .int .i64 0, .int .i64 0], .int .i64 14]) ?_ rfl ⟨?_, ?_⟩
            · refine results_row2 (fn := Try.f20) (p := 2) (u := 3) rfl _ _ w.heap.size 29 _ (0, 0) _ rfl ?_ Try.underlying29 rfl ?_
              · exact (heap_setV (heap_setV (heap_setV (heap_setV (heap_setV (heap_setV (heap_setV (heap_setV (heap_setV (heap_setV (heap_setV HZ.out 0 (.int .i64 0) #[.int .i64 0, .int .i64 0, .int .i64 0, .int .i64 0, .int .i64 0, .int .i64 0, .int .i64 0, .bool false, .int .i64 0, .int .i64 0, .int .i64 0] rfl) 1 (.int .i64 0) #[.int .i64 0, .int .i64 0, .int .i64 0, .int .i64 0, .int .i64 0, .int .i64 0, .int .i64 0, .bool false, .int .i64 0, .int .i64 0, .int .i64 0] rfl) 2 (.int .i64 0) #[.int .i64 0, .int .i64 0, .int .i64 0, .int .i64 0, .int .i64 0, .int .i64 0, .int .i64 0, .bool false, .int .i64 0, .int .i64 0, .int .i64 0] rfl) 3 (.int .i64 0) #[.int .i64 0, .int .i64 0, .int .i64 0, .int .i64 0, .int .i64 0, .int .i64 0, .int .i64 0, .bool false, .int .i64 0, .int .i64 0, .int .i64 0] rfl) 4 (.int .i64 0) #[.int .i64 0, .int .i64 0, .int .i64 0, .int .i64 0, .int .i64 0, .int .i64 0, .int .i64 0, .bool false, .int .i64 0, .int .i64 0, .int .i64 0] rfl) 5 (.int .i64 0) #[.int .i64 0, .int .i64 0, .int .i64 0, .int .i64 0, .int .i64 0, .int .i64 0, .int .i64 0, .bool false, .int .i64 0, .int .i64 0, .int .i64 0] rfl) 6 (.int .i64 0) #[.int .i64 0, .int .i64 0, .int .i64 0, .int .i64 0, .int .i64 0, .int .i64 0, .int .i64 0, .bool false, .int .i64 0, .int .i64 0, .int .i64 0] rfl) 7 (.bool false) #[.int .i64 0, .int .i64 0, .int .i64 0, .int .i64 0, .int .i64 0, .int .i64 0, .int .i64 0, .bool false, .int .i64 0, .int .i64 0, .int .i64 0] rfl) 8 (.int .i64 0) #[.int .i64 0, .int .i64 0, .int .i64 0, .int .i64 0, .int .i64 0, .int .i64 0, .int .i64 0, .bool false, .int .i64 0, .int .i64 0, .int .i64 0] rfl) 9 (.int .i64 0) #[.int .i64 0, .int .i64 0, .int .i64 0, .int .i64 0, .int .i64 0, .int .i64 0, .int .i64 0, .bool false, .int .i64 0, .int .i64 0, .int .i64 0] rfl) 10 (.int .i64 0) #[.int .i64 0, .int .i64 0, .int .i64 0, .int .i64 0, .int .i64 0, .int .i64 0, .int .i64 0, .bool false, .int .i64 0, .int .i64 0, .int .i64 0] rfl)
              · kernel_rfl
            · rw [HN.out]; rfl
            · have g9 := Grow.trans (Grow.alloc _ _) hg
              exact (Grow.setD (Grow.setD (Grow.setD (Grow.setD (Grow.setD (Grow.setD (Grow.setD (Grow.setD (Grow.setD (Grow.setD (Grow.setD g9 _ _ (Nat.le_refl _) _) _ _ (Nat.le_refl _) _) _ _ (Nat.le_refl _) _) _ _ (Nat.le_refl _) _) _ _ (Nat.le_refl _) _) _ _ (Nat.le_refl _) _) _ _ (Nat.le_refl _) _) _ _ (Nat.le_refl _) _) _ _ (Nat.le_refl _) _) _ _ (Nat.le_refl _) _) _ _ (Nat.le_refl _) _)
end Go.Proofs.Ytdeegepmampanaa
