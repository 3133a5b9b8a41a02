/- Plain laws: an operation that is written is read as it was, in few bytes; a text that is read is how it is written. -/
import Derived.Test.YtdeegepmampanaaOpDecPlain
namespace Go.Proofs.Ytdeegepmampanaa
set_option linter.unusedVariables false
set_option linter.unusedSimpArgs false
theorem unvarP_take (l : List UInt8) (h : 0 < (unvarP l).2) : varL (unvarP l).1 = l.take (unvarP l).2 ∧ (unvarP l).1 < 18446744073709551616 := by
  by_cases hn : ∀ i, i < 10 → i < l.length → 128 ≤ (l.getD i 0).toNat
  · rw [unvarP_none l hn] at h
    simp at h
  · have hex : ∃ j, j < 10 ∧ j < l.length ∧ (l.getD j 0).toNat < 128 ∧ ∀ i, i < j → 128 ≤ (l.getD i 0).toNat := by
      have h0 : ∃ j, j < 10 ∧ j < l.length ∧ (l.getD j 0).toNat < 128 := by
        simp only [Classical.not_forall] at hn
        obtain ⟨j, h1, h2, h3⟩ := hn
        exact ⟨j, h1, h2, by omega⟩
      obtain ⟨j, hj⟩ := h0
      induction j using Nat.strongRecOn with
      | ind j ih =>
        by_cases hall : ∀ i, i < j → 128 ≤ (l.getD i 0).toNat
        · exact ⟨j, hj.1, hj.2.1, hj.2.2, hall⟩
        · simp only [Classical.not_forall] at hall
          obtain ⟨i, h1, h2⟩ := hall
          exact ih i h1 ⟨by omega, by omega, by omega⟩
    obtain ⟨j, h1, h2, h3, h4⟩ := hex
    rw [unvarP_at l j h2 (by omega) h4 h3] at h ⊢
    have ht := unvar_test l j h2 (by omega) h4 h3
    split
    · rename_i hok
      have e := ht.2 hok
      have h5 := ht.1
      rw [hok, e, beq_iff_eq] at h5
      have hm64 : valV (l.take (j + 1)) % 18446744073709551616 < 18446744073709551616 := Nat.mod_lt _ (by decide)
      exact ⟨h5, by simp only; omega⟩
    · rename_i hok
      rw [if_neg hok] at h
      simp at h
theorem varL_pos (n : Nat) (h : n < 18446744073709551616) : 0 < (varL n).length := by
  have := (varL_can n h).1
  cases hh : varL n with
  | nil => rw [hh] at this; exact absurd this (by simp [Can])
  | cons a l => simp
theorem one_varL (n : Nat) (r : List UInt8) (h : n ≤ 1099511627776) : one (varL n ++ r) = some (n, r) := by
  unfold one
  rw [unvarP_varL n (by omega) r]
  have hp := varL_pos n (by omega)
  rw [if_pos ⟨hp, h⟩]
  simp
theorem one_inv {t r : List UInt8} {n : Nat} (h : one t = some (n, r)) : t = varL n ++ r ∧ n ≤ 1099511627776 := by
  unfold one at h
  split at h
  · rename_i hc
    simp only [Option.some.injEq, Prod.mk.injEq] at h
    obtain ⟨rfl, rfl⟩ := h
    rw [(unvarP_take t hc.1).1]
    exact ⟨(List.take_append_drop _ _).symm, hc.2⟩
  · cases h
def varsN (l : List Nat) : List UInt8 := l.flatMap varL
theorem runR_vars : ∀ (l : List Nat) (f : Nat), l.length ≤ f → (∀ n ∈ l, n ≤ 1099511627776) → runR f (varsN l) = some l
  | [], f, _, _ => by cases f <;> simp [runR, varsN]
  | n :: l, 0, h, _ => by simp at h
  | n :: l, f + 1, h, hb => by
    have hn := hb n (by simp)
    have e : varsN (n :: l) = varL n ++ varsN l := rfl
    have hne : varL n ++ varsN l ≠ [] := by
      have := varL_pos n (by omega)
      intro hh
      rw [List.append_eq_nil_iff] at hh
      rw [hh.1] at this
      simp at this
    rw [e]
    unfold runR
    rw [if_neg hne, one_varL n _ hn]
    simp only
    rw [runR_vars l f (by simpa using h) (fun m hm => hb m (by simp [hm]))]
    rfl
theorem runR_inv : ∀ (f : Nat) (t : List UInt8) (l : List Nat), runR f t = some l → l.length < f → t = varsN l ∧ ∀ n ∈ l, n ≤ 1099511627776
  | 0, t, l, h, hl => by omega
  | f + 1, t, l, h, hl => by
    unfold runR at h
    split at h
    · rename_i ht
      simp only [Option.some.injEq] at h
      subst h
      exact ⟨ht, fun n hn => by cases hn⟩
    · cases ho : one t with
      | none => rw [ho] at h; cases h
      | some q =>
        obtain ⟨n, r⟩ := q
        rw [ho] at h
        simp only at h
        obtain ⟨l', hl', rfl⟩ := Option.map_eq_some_iff.1 h
        obtain ⟨e1, e2⟩ := one_inv ho
        obtain ⟨e3, e4⟩ := runR_inv f r l' hl' (by simpa using hl)
        refine ⟨by rw [e1, e3]; rfl, fun m hm => ?_⟩
        rcases List.mem_cons.1 hm with rfl | hm
        · exact e2
        · exact e4 m hm
/-- The numbers that are written of an operation. -/
def numsN (o : OpR) : List Nat := (nums8 o).map Int.toNat ++ (if o.done then [(o.ret - o.inv).toNat, (foldV o.res).toNat] else [])
theorem encL_nums (o : OpR) : encL o = varsN (numsN o) := by
  unfold encL numsN varsN varsL
  rw [List.flatMap_append, List.flatMap_map]
  cases o.done <;> simp
theorem foldV_small (n : Int) (h1 : -1073741824 ≤ n) (h2 : n ≤ 1073741824) : 0 ≤ foldV n ∧ foldV n ≤ 2147483648 := by unfold foldV; split <;> omega
theorem numsN_le {o : OpR} (h : checkE o = 0) : ∀ n ∈ numsN o, n ≤ 1099511627776 := by
  obtain ⟨hn, h1, h2, hd, hnd⟩ := ok_bounds h
  have hinv := hn o.inv (by simp [nums8])
  have hf := foldV_small o.res h1 h2
  intro n hm
  unfold numsN at hm
  rcases List.mem_append.1 hm with hm | hm
  · obtain ⟨m, hm2, rfl⟩ := List.mem_map.1 hm
    have := hn m hm2
    omega
  · cases hdone : o.done
    · rw [hdone] at hm; simp at hm
    · rw [hdone] at hm
      have := hd hdone
      simp only [if_true, List.mem_cons, List.not_mem_nil, or_false] at hm
      omega
/-- An operation that is written is read as it was. -/
theorem dec_enc {o : OpR} (h : checkE o = 0) : decL (encL o) = some o := by
  have hle := numsN_le h
  obtain ⟨hn, h1, h2, hd, hnd⟩ := ok_bounds h
  have hf := foldV_small o.res h1 h2
  have hu := unfoldV_foldV o.res
  have hlen : (numsN o).length = 8 ∨ (numsN o).length = 10 := by
    unfold numsN
    cases o.done <;> simp [nums8]
  unfold decL
  rw [encL_nums, runR_vars _ 11 (by omega) hle]
  simp only
  have b := fun (x : Int) (hx : x ∈ nums8 o) => hn x hx
  have b0 := b o.id (by simp [nums8])
  have b1 := b o.proc (by simp [nums8])
  have b2 := b o.obj (by simp [nums8])
  have b3 := b o.kind (by simp [nums8])
  have b4 := b o.meth (by simp [nums8])
  have b5 := b o.arg (by simp [nums8])
  have b6 := b o.sec (by simp [nums8])
  have b7 := b o.inv (by simp [nums8])
  clear b hn hle hlen
  obtain ⟨id, proc, obj, kind, meth, arg, sec, done, res, inv, ret⟩ := o
  simp only at *
  have t : ∀ x : Int, 0 ≤ x ∧ x ≤ 1099511627776 → ((x.toNat : Nat) : Int) = x := fun x hx => by omega
  cases done
  · obtain ⟨r0, s0⟩ := hnd rfl
    have e : mk8 (numsN ⟨id, proc, obj, kind, meth, arg, sec, false, res, inv, ret⟩) = ⟨id, proc, obj, kind, meth, arg, sec, false, res, inv, ret⟩ := by
      simp only [mk8, numsN, nums8, List.map_cons, List.map_nil, Bool.false_eq_true, if_false, List.append_nil, List.getD_cons_zero, List.getD_cons_succ]
      rw [t _ b0, t _ b1, t _ b2, t _ b3, t _ b4, t _ b5, t _ b6, t _ b7, r0, s0]
    rw [if_pos (by simp [numsN, nums8]), e, okOp, if_pos h]
  · obtain ⟨r0, s0⟩ := hd rfl
    have e : mk10 (numsN ⟨id, proc, obj, kind, meth, arg, sec, true, res, inv, ret⟩) = ⟨id, proc, obj, kind, meth, arg, sec, true, res, inv, ret⟩ := by
      simp only [mk10, numsN, nums8, List.map_cons, List.map_nil, if_true, List.cons_append, List.nil_append, List.getD_cons_zero, List.getD_cons_succ]
      rw [t _ b0, t _ b1, t _ b2, t _ b3, t _ b4, t _ b5, t _ b6, t _ b7, show (((foldV res).toNat : Nat) : Int) = foldV res by omega, hu, show inv + (((ret - inv).toNat : Nat) : Int) = ret by omega]
    rw [if_neg (by simp [numsN, nums8]), if_pos (by simp [numsN, nums8]), e, okOp, if_pos h]
theorem varL_six (n : Nat) (h : n ≤ 1099511627776) : (varL n).length ≤ 6 := by
  unfold varL
  rw [varF_fuel 5 9 n (by rw [show 128 * 128 ^ 5 = 4398046511104 from rfl]; omega) (by omega)]
  exact varF_length 5 n
theorem varsN_len : ∀ l : List Nat, (∀ n ∈ l, n ≤ 1099511627776) → (varsN l).length ≤ 6 * l.length
  | [], _ => by simp [varsN]
  | n :: l, h => by
    have h1 := varL_six n (h n (by simp))
    have h2 := varsN_len l (fun m hm => h m (by simp [hm]))
    show (varL n ++ varsN l).length ≤ _
    rw [List.length_append, List.length_cons]
    omega
theorem encL_len {o : OpR} (h : checkE o = 0) : (encL o).length ≤ 60 := by
  have hlen : (numsN o).length ≤ 10 := by
    unfold numsN
    cases o.done <;> simp [nums8]
  have := varsN_len _ (numsN_le h)
  rw [encL_nums]
  omega
theorem list8 {l : List Nat} (h : l.length = 8) : ∃ a b c d e f g k, l = [a, b, c, d, e, f, g, k] := by
  match l, h with
  | [a, b, c, d, e, f, g, k], _ => exact ⟨a, b, c, d, e, f, g, k, rfl⟩
theorem list10 {l : List Nat} (h : l.length = 10) : ∃ a b c d e f g k m n, l = [a, b, c, d, e, f, g, k, m, n] := by
  match l, h with
  | [a, b, c, d, e, f, g, k, m, n], _ => exact ⟨a, b, c, d, e, f, g, k, m, n, rfl⟩
/-- A text that is read is how it is written. -/
theorem enc_dec {t : List UInt8} {o : OpR} (h : decL t = some o) : checkE o = 0 ∧ encL o = t := by
  unfold decL at h
  cases hr : runR 11 t with
  | none => rw [hr] at h; cases h
  | some l =>
    rw [hr] at h
    simp only at h
    split at h
    · rename_i h8
      obtain ⟨e, _⟩ := runR_inv 11 t l hr (by omega)
      unfold okOp at h
      split at h
      · rename_i hc
        simp only [Option.some.injEq] at h
        subst h
        refine ⟨hc, ?_⟩
        rw [e, encL_nums]
        congr 1
        obtain ⟨a, b, c, d, e, f, g, k, rfl⟩ := list8 h8
        simp [numsN, nums8, mk8]
      · cases h
    · split at h
      · rename_i h10
        obtain ⟨e, _⟩ := runR_inv 11 t l hr (by omega)
        unfold okOp at h
        split at h
        · rename_i hc
          simp only [Option.some.injEq] at h
          subst h
          refine ⟨hc, ?_⟩
          rw [e, encL_nums]
          congr 1
          obtain ⟨a, b, c, d, e, f, g, k, m, n, rfl⟩ := list10 h10
          have hu := foldV_unfoldV (n : Int) (by omega)
          simp [numsN, nums8, mk10, hu]
          omega
        · cases h
      · cases h
end Go.Proofs.Ytdeegepmampanaa
