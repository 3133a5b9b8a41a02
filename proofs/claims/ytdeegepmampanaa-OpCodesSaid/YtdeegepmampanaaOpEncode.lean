/- What op.Encode computes. -/
import Derived.Test.YtdeegepmampanaaBuilder
import Derived.Test.YtdeegepmampanaaOpEncPlain
import Derived.Test.YtdeegepmampanaaOpCheck
import Derived.Test.YtdeegepmampanaaOpLift
import Derived.Test.YtdeegepmampanaaVar
namespace Go.Proofs.Ytdeegepmampanaa
open Go.RowKit
set_option linter.unusedVariables false
set_option linter.unusedSimpArgs false
/-- What is written of an operation: nothing, if it may not be. -/
def encR (o : OpR) : List UInt8 := if checkE o = 0 then encL o else []
theorem varL_ne (n : Nat) (h : n < 18446744073709551616) : varL n ≠ [] := by
  by_cases h1 : n < 128
  · rw [varL_small n h1]; simp
  · rw [varL_big n h1 h]; simp
theorem varsL_len : ∀ l : List Int, (varsL l).length ≤ 10 * l.length
  | [] => by simp [varsL]
  | n :: l => by
    have h1 := varL_length n.toNat
    have h2 := varsL_len l
    simp only [varsL, List.flatMap_cons, List.length_append, List.length_cons] at *
    omega
theorem varsL_ne : ∀ l : List Int, (∀ n ∈ l, 0 ≤ n ∧ n < 18446744073709551616) → l ≠ [] → varsL l ≠ []
  | [], _, h => absurd rfl h
  | n :: l, hb, _ => by
    have := hb n (by simp)
    have hv := varL_ne n.toNat (by omega)
    simp [varsL, hv]
theorem varsL_take (l : List Int) (k : Nat) (h : k < l.length) : varsL (l.take (k + 1)) = varsL (l.take k) ++ varL (l[k]).toNat := by
  rw [← varsL_snoc, List.take_add_one]
  simp [h]
set_option maxRecDepth 100000 in
set_option maxHeartbeats 4000000 in
theorem Encode_bad (o : OpR) (l : o.Fit) (w : World) (h : checkE o ≠ 0) : Calls Try.prog 17 #[.agg #[.int .i64 o.id, .int .i64 o.proc, .int .i64 o.obj, .int .i64 o.kind, .int .i64 o.meth, .int .i64 o.arg, .int .i64 o.sec, .bool o.done, .int .i64 o.res, .int .i64 o.inv, .int .i64 o.ret]] w fun e w' => e = .returned (.tuple #[.string ⟨#[]⟩, .int .i64 (checkE o)]) ∧ Grow w w' := by
  have c1 := hid (fun w => Check_c o w l.res.1 l.res.2)
  clear l
  generalize checkE o = E at *
  have q : (E != 0) = true := by rw [bne_iff_ne]; exact h
  clear h
  obtain ⟨id, proc, obj, kind, meth, arg, sec, done, res, inv, ret⟩ := o
  dsimp only at *
  go_enter Try.func17, Try.ntmps17
  go_wp2_with fail
  refine (c1.out _).mono ?_
  rintro e w1 ⟨rfl, b1⟩
  go_wp2_with fail
  go_ret2
  exact ⟨rfl, Grow.trans (Grow.alloc _ _) b1⟩
set_option maxRecDepth 100000 in
set_option maxHeartbeats 4000000 in
theorem Encode_ok (o : OpR) (l : o.Fit) (w : World) (h : checkE o = 0) : Calls Try.prog 17 #[.agg #[.int .i64 o.id, .int .i64 o.proc, .int .i64 o.obj, .int .i64 o.kind, .int .i64 o.meth, .int .i64 o.arg, .int .i64 o.sec, .bool o.done, .int .i64 o.res, .int .i64 o.inv, .int .i64 o.ret]] w fun e w' => e = .returned (.tuple #[.string ⟨(encL o).toArray⟩, .int .i64 0]) ∧ Grow w w' := by
  have c1 := hid (fun w => Check_c o w l.res.1 l.res.2)
  obtain ⟨hn, hr1, hr2, hd, hnd⟩ := ok_bounds h
  have HF := hid (fun w => Fold_c o.res w l.res.1 l.res.2)
  have hinv := hn o.inv (by simp [nums8])
  have hfv := foldV_bd o.res l.res.1 l.res.2
  unfold encL
  rw [h] at c1
  have hlit : (nums8 o).map (Value.int .i64) = [.int .i64 o.id, .int .i64 o.proc, .int .i64 o.obj, .int .i64 o.kind, .int .i64 o.meth, .int .i64 o.arg, .int .i64 o.sec, .int .i64 o.inv] := rfl
  have hlen : (nums8 o).length = 8 := rfl
  clear h l hr1 hr2
  generalize nums8 o = N at *
  generalize foldV o.res = F at *
  obtain ⟨id, proc, obj, kind, meth, arg, sec, done, res, inv, ret⟩ := o
  dsimp only at *
  have HN := hid hn
  have HL := hid hlit
  have HW := hid (fun n (w : World) h => Var_c n w h)
  clear hn hlit
  go_enter Try.func17, Try.ntmps17
  go_wp2_with fail
  refine (c1.out _).mono ?_
  rintro e w1 ⟨rfl, b1⟩
  have k1 := b1.cells
  have z1 : w.heap.size < w1.heap.size := (by have := b1.size; simp at this; omega)
  go_wp2_with fail
  go_loopw [31] (fun i wr => ∃ (k : Nat), k ≤ 8 ∧ i = .int .i64 k ∧ Hid (Bld w1.heap.size w1.heap.size (varsL (N.take k)) wr) ∧ Grow w1 wr ∧ Hid (w1.heap.size < wr.heap.size ∧ wr.heap[w1.heap.size + 1]? = some (.cells (N.map (Value.int .i64)).toArray 3 (0, 0)))) (fun i _ => 8 - (intOf i).toNat)
  case atStart =>
    refine ⟨0, by omega, rfl, ?_, (Grow.trans (Grow.alloc _ _) (Grow.alloc _ _)), ?_⟩
    · exact hid ((Bld.fresh (Nat.le_refl _)).grow (Grow.alloc _ _))
    · rw [HL.out]
      refine hid ⟨by simp; omega, ?_⟩
      have := heap_new (w1.alloc (.cells #[.pointer none, .slice none 0 0] 51)) (.cells #[.int .i64 id, .int .i64 proc, .int .i64 obj, .int .i64 kind, .int .i64 meth, .int .i64 arg, .int .i64 sec, .int .i64 inv] 3)
      simpa using this
  case round =>
    obtain ⟨k, hk, rfl, HB, hb, HG⟩ := hrel
    have k2 := hb.cells
    by_cases hlt : k < 8
    · have hkl : k < N.length := by omega
      have hc : wr.cell? ⟨w1.heap.size + 1, k, none⟩ = some (.int .i64 N[k]) := by
        rw [heap_cell HG.out.2]
        simp [hkl]
      obtain ⟨v0, v1⟩ := HN.out N[k] (List.getElem_mem hkl)
      have ht := hid (varsL_take N k hkl)
      have hsl := varsL_len (N.take k)
      have hvl := varL_length (N[k]).toNat
      have hm : ((N[k]).toNat : Int) = N[k] := by omega
      have hw : IntKind.u64.wrap N[k] = ((N[k]).toNat : Int) := by rw [show IntKind.u64.wrap N[k] = N[k] % 18446744073709551616 by simp [IntKind.wrap, IntKind.bits, IntKind.signed]]; omega
      generalize N[k] = n at *
      go_wp2_with fail
      have hW := HW.out n.toNat wr (by omega)
      rw [hm] at hW
      refine hW.mono ?_
      rintro e w2 ⟨rfl, b2⟩
      have hsz : (varsL (N.take k)).length + (⟨(varL n.toNat).toArray⟩ : ByteArray).size ≤ 140737488355328 := by
        have e : (⟨(varL n.toNat).toArray⟩ : ByteArray).size = (varL n.toNat).length := by simp [ByteArray.size]
        rw [e]
        simp only [List.length_take] at hsl
        omega
      have HB2 := hid (show Bld w1.heap.size w1.heap.size (varsL (N.take k)) w2 from HB.out.grow b2)
      go_wp2_with fail
      refine (WriteString_c _ _ _ _ _ HB2.out hsz (by have := hb.size; have := b2.size; omega)).mono ?_
      rintro e w3 ⟨rfl, h3, b3, k3⟩
      have HB3 := hid h3
      clear h3
      go_wp2_with fail
      go_roundw
      case rel => exact ⟨k + 1, by omega, by go_num, by rw [ht.out]; exact HB3, Below.trans (Grow.trans hb b2) b3, hid ⟨by have := HG.out.1; have := b2.size; have := b3.size; omega, k3 _ _ _ _ (by omega) (by decide) (Grow.heap b2 HG.out.2)⟩⟩
      case measure => simp [intOf]; omega
    · obtain rfl : k = 8 := by omega
      have htk : N.take 8 = N := List.take_of_length_le (by omega)
      rw [htk] at HB
      have hsl := varsL_len N
      rw [hlen] at hsl
      have hne : varsL N ≠ [] := varsL_ne N (fun n hn => ⟨(HN.out n hn).1, by have := (HN.out n hn).2; omega⟩) (by intro h; rw [h] at hlen; simp at hlen)
      have HNE := hid hne
      clear hne htk hlt hk HN HL HG
      cases done
      · go_wp2_with fail
        have hS := String_c _ _ _ _ HB.out HNE.out
        refine hS.mono ?_
        rintro e w2 ⟨rfl, b2⟩
        go_wp2_with fail
        go_ret2
        refine ⟨by simp, Grow.trans (Grow.trans (Grow.alloc _ _) b1) (Below.trans hb b2)⟩
      · obtain ⟨d1, d2⟩ := hd rfl
        obtain ⟨d3, d4⟩ := hinv
        clear hd hnd
        have hm : ((ret - inv).toNat : Int) = ret - inv := by omega
        have hm2 : (F.toNat : Int) = F := by omega
        have hv1 := varL_length (ret - inv).toNat
        have hv2 := varL_length F.toNat
        go_wp2_with fail
        have hW := HW.out (ret - inv).toNat wr (by omega)
        rw [hm] at hW
        refine hW.mono ?_
        rintro e w2 ⟨rfl, b2⟩
        have hsz : (varsL N).length + (⟨(varL (ret - inv).toNat).toArray⟩ : ByteArray).size ≤ 140737488355328 := by
          have e : (⟨(varL (ret - inv).toNat).toArray⟩ : ByteArray).size = (varL (ret - inv).toNat).length := by simp [ByteArray.size]
          rw [e]
          omega
        have HB2 := hid (HB.out.grow b2)
        go_wp2_with fail
        refine (WriteString_c _ _ _ _ _ HB2.out hsz (by have := hb.size; have := b2.size; omega)).mono ?_
        rintro e w3 ⟨rfl, h3, b3, k3⟩
        have HB3 := hid h3
        have kk := Grow.cells (a := w1) (b := w3) (Below.trans (Grow.trans hb b2) b3)
        clear h3
        go_wp2_with fail
        refine (HF.out _).mono ?_
        rintro e w4 ⟨rfl, rfl⟩
        go_wp2_with fail
        have hW2 := HW.out F.toNat w3 (by omega)
        rw [hm2] at hW2
        refine hW2.mono ?_
        rintro e w4 ⟨rfl, b4⟩
        have hsz2 : (varsL N ++ (⟨(varL (ret - inv).toNat).toArray⟩ : ByteArray).data.toList).length + (⟨(varL F.toNat).toArray⟩ : ByteArray).size ≤ 140737488355328 := by
          have e : (⟨(varL F.toNat).toArray⟩ : ByteArray).size = (varL F.toNat).length := by simp [ByteArray.size]
          rw [e, List.length_append]
          simp
          omega
        have HB4 := hid (HB3.out.grow b4)
        go_wp2_with fail
        refine (WriteString_c _ _ _ _ _ HB4.out hsz2 (by have := hb.size; have := b2.size; have := b3.size; have := b4.size; omega)).mono ?_
        rintro e w5 ⟨rfl, h5, b5, k5⟩
        have HB5 := hid h5
        clear h5
        go_wp2_with fail
        have hS := String_c _ _ _ _ HB5.out (by simp [HNE.out])
        refine hS.mono ?_
        rintro e w6 ⟨rfl, b6⟩
        go_wp2_with fail
        go_ret2
        refine ⟨by simp, Grow.trans (Grow.trans (Grow.alloc _ _) b1) (Below.trans (Below.trans (Grow.trans (Below.trans (Grow.trans hb b2) b3) b4) b5) b6)⟩
end Go.Proofs.Ytdeegepmampanaa
