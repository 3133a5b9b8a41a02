/- What the reference's Encode computes. -/
import Derived.Test.YtdeegepmampanaaOpEncode
import Derived.Test.YtdeegepmampanaaOpRCheck
import Derived.Test.YtdeegepmampanaaRVar
namespace Go.Proofs.Ytdeegepmampanaa
open Go.RowKit
set_option linter.unusedVariables false
set_option linter.unusedSimpArgs false
theorem bytes_add (a b : List UInt8) : (⟨a.toArray⟩ : ByteArray) ++ ⟨b.toArray⟩ = ⟨(a ++ b).toArray⟩ := by
  apply ByteArray.ext
  simp [ByteArray.data_append]
theorem bytes_size (a : List UInt8) : (⟨a.toArray⟩ : ByteArray).size = a.length := by simp [ByteArray.size]
set_option maxRecDepth 100000 in
set_option maxHeartbeats 4000000 in
theorem REncode_bad (o : OpR) (w : World) (h : checkE o ≠ 0) : Calls Try.prog 18 #[.agg #[.int .i64 o.id, .int .i64 o.proc, .int .i64 o.obj, .int .i64 o.kind, .int .i64 o.meth, .int .i64 o.arg, .int .i64 o.sec, .bool o.done, .int .i64 o.res, .int .i64 o.inv, .int .i64 o.ret]] w fun e w' => e = .returned (.tuple #[.string ⟨#[]⟩, .int .i64 (checkE o)]) ∧ Grow w w' := by
  have c1 := hid (fun w => RCheck_c o w)
  generalize checkE o = E at *
  have q : (E != 0) = true := by rw [bne_iff_ne]; exact h
  clear h
  obtain ⟨id, proc, obj, kind, meth, arg, sec, done, res, inv, ret⟩ := o
  dsimp only at *
  go_enter Try.func18, Try.ntmps18
  go_wp2_with fail
  refine (c1.out _).mono ?_
  rintro e w1 ⟨rfl, b1⟩
  have k1 := b1.cells
  have z1 : w.heap.size < w1.heap.size := (by have := b1.size; simp at this; omega)
  go_wp2_with fail
  refine (c1.out _).mono ?_
  rintro e w2 ⟨rfl, b2⟩
  go_wp2_with fail
  go_ret2
  exact ⟨rfl, Grow.trans (Grow.alloc _ _) (Grow.trans b1 b2)⟩
set_option maxRecDepth 100000 in
set_option maxHeartbeats 4000000 in
theorem REncode_ok (o : OpR) (l : o.Fit) (w : World) (h : checkE o = 0) : Calls Try.prog 18 #[.agg #[.int .i64 o.id, .int .i64 o.proc, .int .i64 o.obj, .int .i64 o.kind, .int .i64 o.meth, .int .i64 o.arg, .int .i64 o.sec, .bool o.done, .int .i64 o.res, .int .i64 o.inv, .int .i64 o.ret]] w fun e w' => e = .returned (.tuple #[.string ⟨(encL o).toArray⟩, .int .i64 0]) ∧ Grow w w' := by
  have c1 := hid (fun w => RCheck_c o w)
  obtain ⟨hn, hr1, hr2, hd, hnd⟩ := ok_bounds h
  have HF := hid (fun w => RFold_c o.res w l.res.1 l.res.2)
  have hinv := hn o.inv (by simp [nums8])
  have hfv := foldV_bd o.res l.res.1 l.res.2
  unfold encL
  rw [h] at c1
  have hlit : (nums8 o).map (Value.int .i64) = [.int .i64 o.id, .int .i64 o.proc, .int .i64 o.obj, .int .i64 o.kind, .int .i64 o.meth, .int .i64 o.arg, .int .i64 o.sec, .int .i64 o.inv] := rfl
  have hlen : (nums8 o).length = 8 := rfl
  clear h l hr1 hr2
  generalize nums8 o = N at *
  generalize foldV o.res = F at *
  obtain ⟨id, proc, obj, kind, meth, arg, sec, done, res, inv, ret⟩ := o
  dsimp only at *
  have HN := hid hn
  have HL := hid hlit
  have HW := hid (fun n (w : World) h => RVar_c n w h)
  clear hn hlit
  go_enter Try.func18, Try.ntmps18
  go_wp2_with fail
  refine (c1.out _).mono ?_
  rintro e w1 ⟨rfl, b1⟩
  have k1 := b1.cells
  have z1 : w.heap.size < w1.heap.size := (by have := b1.size; simp at this; omega)
  go_wp2_with fail
  go_loopw [5, 6] (fun s i wr => ∃ (k : Nat) (S : ByteArray), k ≤ 8 ∧ i = .int .i64 k ∧ s = .string S ∧ Hid (S = ⟨(varsL (N.take k)).toArray⟩) ∧ Grow w1 wr ∧ Hid (wr.heap[w1.heap.size]? = some (.cells (N.map (Value.int .i64)).toArray 3 (0, 0)))) (fun _ i _ => 8 - (intOf i).toNat)
  case atStart =>
    refine ⟨0, _, by omega, rfl, rfl, hid rfl, Grow.alloc _ _, ?_⟩
    rw [HL.out]
    exact hid (heap_new _ _)
  case round =>
    obtain ⟨k, T, hk, rfl, rfl, HS, hb, HG⟩ := hrel
    have k2 := hb.cells
    by_cases hlt : k < 8
    · have hkl : k < N.length := by omega
      have hc : wr.cell? ⟨w1.heap.size, k, none⟩ = some (.int .i64 N[k]) := by
        rw [heap_cell HG.out]
        simp [hkl]
      obtain ⟨v0, v1⟩ := HN.out N[k] (List.getElem_mem hkl)
      have ht := hid (varsL_take N k hkl)
      have hsl := varsL_len (N.take k)
      have hvl := varL_length (N[k]).toNat
      have hm : ((N[k]).toNat : Int) = N[k] := by omega
      have hTs : T.size ≤ 100 := by rw [HS.out, bytes_size]; simp only [List.length_take] at hsl; omega
      have hW := hid (HW.out (N[k]).toNat wr (by omega))
      rw [hm] at hW
      generalize N[k] = n at *
      have hX := hid (show (T ++ (⟨(varL n.toNat).toArray⟩ : ByteArray)) = ⟨(varsL (N.take (k + 1))).toArray⟩ by rw [HS.out, bytes_add, ht.out])
      have hVs : (⟨(varL n.toNat).toArray⟩ : ByteArray).size ≤ 10 := by rw [bytes_size]; exact hvl
      generalize (⟨(varL n.toNat).toArray⟩ : ByteArray) = V at *
      go_wp2_with fail
      refine hW.out.mono ?_
      rintro e w2 ⟨rfl, b2⟩
      go_wp2_with fail
      go_roundw
      case rel => exact ⟨k + 1, _, by omega, by go_num, rfl, hX, Grow.trans hb b2, hid (Grow.heap b2 HG.out)⟩
      case measure => simp [intOf]; omega
    · obtain rfl : k = 8 := by omega
      have htk : N.take 8 = N := List.take_of_length_le (by omega)
      rw [htk] at HS
      have hsl := varsL_len N
      rw [hlen] at hsl
      clear htk hlt hk HN HL HG
      cases done
      · go_wp2_with fail
        go_ret2
        refine ⟨?_, Grow.trans (Grow.trans (Grow.alloc _ _) b1) hb⟩
        rw [HS.out]
        simp
      · obtain ⟨d1, d2⟩ := hd rfl
        obtain ⟨d3, d4⟩ := hinv
        clear hd hnd
        have hm : ((ret - inv).toNat : Int) = ret - inv := by omega
        have hm2 : (F.toNat : Int) = F := by omega
        have hv1 := varL_length (ret - inv).toNat
        have hv2 := varL_length F.toNat
        have hTs : T.size ≤ 80 := by rw [HS.out, bytes_size]; omega
        have hWa := hid (fun w => HW.out (ret - inv).toNat w (by omega))
        have hWb := hid (fun w => HW.out F.toNat w (by omega))
        simp only [hm] at hWa
        simp only [hm2] at hWb
        have hX := hid (show (T ++ (⟨(varL (ret - inv).toNat).toArray⟩ : ByteArray)) ++ (⟨(varL F.toNat).toArray⟩ : ByteArray) = ⟨(varsL N ++ (varL (ret - inv).toNat ++ varL F.toNat)).toArray⟩ by rw [HS.out, bytes_add, bytes_add, List.append_assoc])
        have hVa : (⟨(varL (ret - inv).toNat).toArray⟩ : ByteArray).size ≤ 10 := by rw [bytes_size]; exact hv1
        have hVb : (⟨(varL F.toNat).toArray⟩ : ByteArray).size ≤ 10 := by rw [bytes_size]; exact hv2
        clear hv1 hv2 hm hm2
        generalize (⟨(varL (ret - inv).toNat).toArray⟩ : ByteArray) = Va at *
        generalize (⟨(varL F.toNat).toArray⟩ : ByteArray) = Vb at *
        have hs1 : (T ++ Va).size ≤ 90 := by rw [ByteArray.size_append']; omega
        have zr : w.heap.size < wr.heap.size := by have := hb.size; omega
        have hq1 : IntKind.i64.wrap (ret - inv) = ret - inv := by simp [IntKind.wrap, IntKind.bits, IntKind.signed]; omega
        have hq2 : IntKind.u64.wrap (ret - inv) = ret - inv := by simp [IntKind.wrap, IntKind.bits, IntKind.signed]; omega
        have hq3 : ¬ 9223372036854775807 < T.size + Va.size := by omega
        have hq4 : ¬ 9223372036854775807 < T.size + Va.size + Vb.size := by omega
        go_wp2_with fail
        refine wp_rely [.eq (.string T), .eq (.pointer (some ⟨w.heap.size, 10, none⟩)), .eq (.int .i64 ret), .eq (.pointer (some ⟨w.heap.size, 9, none⟩)), .eq (.int .i64 inv), .eq (.int .i64 (ret - inv)), .eq (.int .u64 (ret - inv)), .eq (.string Va), .eq (.string (T ++ Va)), .eq (.pointer (some ⟨w.heap.size, 8, none⟩)), .eq (.int .i64 res), .eq (.int .u64 F), .eq (.string Vb), .eq (.string (T ++ Va ++ Vb)), .eq (.string (T ++ Va ++ Vb))] (by kernel_rfl) (by kernel_rfl) (by kernel_rfl) ?_ ?_
        · simp only [relyGoals]
          refine ⟨?_, ?_, ?_, ?_, ?_, ?_, ?_, ?_, ?_, ?_, ?_, ?_, ?_, ?_, ?_, trivial⟩
          all_goals intro t w' hsz hg hdd hfr
          all_goals simp only [depsDid, Did, perAt, List.getElem?_cons_zero, List.getElem?_cons_succ, List.getD_cons_zero, List.getD_cons_succ, Per.eq, Per.row, Per.of, and_true, Array.getD_eq_getD_getElem?] at hdd
          · rw [if_pos (by rfl)]
            try simp only [perAt, List.getD_cons_zero, List.getD_cons_succ, Per.eq, Per.row, Per.of]
            have hs5 := hfr 5 (by kernel_rfl)
            simp only [Array.getD_eq_getD_getElem?] at hs5
            simp [execOp, Act.eval, hdd, hs5, relyUpon, go_sem, Grow.refl]
          · rw [if_pos (by rfl)]
            try simp only [perAt, List.getD_cons_zero, List.getD_cons_succ, Per.eq, Per.row, Per.of]
            have hs1 := hfr 1 (by kernel_rfl)
            simp only [Array.getD_eq_getD_getElem?] at hs1
            simp [execOp, Act.eval, hdd, hs1, relyUpon, go_sem, Grow.refl]
          · rw [if_pos (by rfl)]
            try simp only [perAt, List.getD_cons_zero, List.getD_cons_succ, Per.eq, Per.row, Per.of]
            have kc := hg.cells
            simp [execOp, Act.eval, hdd, relyUpon, go_sem, Grow.refl, kc, k1, k2, z1, zr]
          · rw [if_pos (by rfl)]
            try simp only [perAt, List.getD_cons_zero, List.getD_cons_succ, Per.eq, Per.row, Per.of]
            have hs1 := hfr 1 (by kernel_rfl)
            simp only [Array.getD_eq_getD_getElem?] at hs1
            simp [execOp, Act.eval, hdd, hs1, relyUpon, go_sem, Grow.refl]
          · rw [if_pos (by rfl)]
            try simp only [perAt, List.getD_cons_zero, List.getD_cons_succ, Per.eq, Per.row, Per.of]
            have kc := hg.cells
            simp [execOp, Act.eval, hdd, relyUpon, go_sem, Grow.refl, kc, k1, k2, z1, zr]
          · rw [if_pos (by rfl)]
            try simp only [perAt, List.getD_cons_zero, List.getD_cons_succ, Per.eq, Per.row, Per.of]
            simp [execOp, Act.eval, hdd, relyUpon, go_sem, Grow.refl, hq1]
          · rw [if_pos (by rfl)]
            try simp only [perAt, List.getD_cons_zero, List.getD_cons_succ, Per.eq, Per.row, Per.of]
            simp [execOp, Act.eval, hdd, relyUpon, go_sem, Grow.refl, hq2]
          · rw [if_pos (by rfl)]
            try simp only [perAt, List.getD_cons_zero, List.getD_cons_succ, Per.eq, Per.row, Per.of]
            simp [execOp, Act.eval, hdd, relyUpon, go_sem]
            refine (hWa.out w').mono fun e w'' h => ?_
            obtain ⟨h1, h2⟩ := h
            have h3 : Grow w' w'' := by first | exact h2 | (rw [← h2]; exact Grow.refl _)
            first | exact ⟨h3, h1⟩ | exact ⟨_, h1, h3, rfl⟩ | exact ⟨h1, h3⟩
          · rw [if_pos (by rfl)]
            try simp only [perAt, List.getD_cons_zero, List.getD_cons_succ, Per.eq, Per.row, Per.of]
            simp [execOp, Act.eval, hdd, relyUpon, go_sem, Grow.refl, hq3]
          · rw [if_pos (by rfl)]
            try simp only [perAt, List.getD_cons_zero, List.getD_cons_succ, Per.eq, Per.row, Per.of]
            have hs1 := hfr 1 (by kernel_rfl)
            simp only [Array.getD_eq_getD_getElem?] at hs1
            simp [execOp, Act.eval, hdd, hs1, relyUpon, go_sem, Grow.refl]
          · rw [if_pos (by rfl)]
            try simp only [perAt, List.getD_cons_zero, List.getD_cons_succ, Per.eq, Per.row, Per.of]
            have kc := hg.cells
            simp [execOp, Act.eval, hdd, relyUpon, go_sem, Grow.refl, kc, k1, k2, z1, zr]
          · rw [if_pos (by rfl)]
            try simp only [perAt, List.getD_cons_zero, List.getD_cons_succ, Per.eq, Per.row, Per.of]
            simp [execOp, Act.eval, hdd, relyUpon, go_sem]
            refine (HF.out w').mono fun e w'' h => ?_
            obtain ⟨h1, h2⟩ := h
            have h3 : Grow w' w'' := by first | exact h2 | (rw [← h2]; exact Grow.refl _)
            first | exact ⟨h3, h1⟩ | exact ⟨_, h1, h3, rfl⟩ | exact ⟨h1, h3⟩
          · rw [if_pos (by rfl)]
            try simp only [perAt, List.getD_cons_zero, List.getD_cons_succ, Per.eq, Per.row, Per.of]
            simp [execOp, Act.eval, hdd, relyUpon, go_sem]
            refine (hWb.out w').mono fun e w'' h => ?_
            obtain ⟨h1, h2⟩ := h
            have h3 : Grow w' w'' := by first | exact h2 | (rw [← h2]; exact Grow.refl _)
            first | exact ⟨h3, h1⟩ | exact ⟨_, h1, h3, rfl⟩ | exact ⟨h1, h3⟩
          · rw [if_pos (by rfl)]
            try simp only [perAt, List.getD_cons_zero, List.getD_cons_succ, Per.eq, Per.row, Per.of]
            simp [execOp, Act.eval, hdd, relyUpon, go_sem, Grow.refl, hq4]
          · rw [if_pos (by rfl)]
            try simp only [perAt, List.getD_cons_zero, List.getD_cons_succ, Per.eq, Per.row, Per.of]
            simp [execOp, Act.eval, hdd, relyUpon, go_sem, Grow.refl]
        intro wz hgz
        simp only [relyEnd, List.headD_cons, List.tail_cons, Per.eq, Per.row, Per.of]
        rintro _ rfl _ rfl _ rfl _ rfl _ rfl _ rfl _ rfl _ rfl _ rfl _ rfl _ rfl _ rfl _ rfl _ rfl _ rfl
        go_simp
        go_wp2_with fail
        go_ret2
        refine ⟨?_, Grow.trans (Grow.trans (Grow.alloc _ _) b1) (Grow.trans hb hgz)⟩
        show Ending.returned (.tuple #[.string (T ++ Va ++ Vb), .int .i64 0]) = _
        rw [hX.out]
        try simp
end Go.Proofs.Ytdeegepmampanaa
