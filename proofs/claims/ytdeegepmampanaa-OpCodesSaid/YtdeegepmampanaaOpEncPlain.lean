/- Plain laws: how an operation is written. -/
import Derived.Test.YtdeegepmampanaaOpPlain
import Derived.Test.YtdeegepmampanaaBitsPlain
import Derived.Test.YtdeegepmampanaaFold
namespace Go.Proofs.Ytdeegepmampanaa
set_option linter.unusedVariables false
/-- The eight numbers of every operation. -/
def nums8 (o : OpR) : List Int := [o.id, o.proc, o.obj, o.kind, o.meth, o.arg, o.sec, o.inv]
/-- Numbers as bytes. -/
def varsL (l : List Int) : List UInt8 := l.flatMap fun n => varL n.toNat
theorem varsL_snoc (l : List Int) (n : Int) : varsL (l ++ [n]) = varsL l ++ varL n.toNat := by simp [varsL]
/-- An operation as bytes. -/
def encL (o : OpR) : List UInt8 := varsL (nums8 o) ++ (if o.done then varL (o.ret - o.inv).toNat ++ varL (foldV o.res).toNat else [])
/-- What holds of an operation that may be. -/
theorem ok_bounds {o : OpR} (h : checkE o = 0) : (∀ n ∈ nums8 o, 0 ≤ n ∧ n ≤ 1099511627776) ∧ -1073741824 ≤ o.res ∧ o.res ≤ 1073741824 ∧ (o.done = true → o.inv < o.ret ∧ o.ret ≤ 1099511627776) ∧ (o.done = false → o.ret = 0 ∧ o.res = 0) := by
  obtain ⟨h1, h2, h3⟩ := checkE_ok h
  obtain ⟨id, proc, obj, kind, meth, arg, sec, done, res, inv, ret⟩ := o
  simp only [bad1, bad2, bad3, fitsB, argsB, resB, decide_eq_false_iff_not, Bool.or_eq_false_iff, Bool.and_eq_false_iff, Bool.not_eq_false', decide_eq_true_eq] at h1 h2 h3
  obtain ⟨hf, ha, hr, hz⟩ := h2
  obtain ⟨hi, ht, hu⟩ := h3
  have ha2 : 0 ≤ arg ∧ arg ≤ 1073741824 ∧ 0 ≤ sec ∧ sec ≤ 1073741824 := by omega
  have hk2 : 1 ≤ kind ∧ kind ≤ 6 ∧ 1 ≤ meth ∧ meth ≤ 14 := by omega
  refine ⟨?_, ?_⟩
  · intro n hn
    simp only [nums8, List.mem_cons, List.not_mem_nil, or_false] at hn
    omega
  · cases done
    · simp at hr ht hz hu
      simp
      omega
    · simp at hr ht hz hu
      simp
      omega
end Go.Proofs.Ytdeegepmampanaa
