/- Plain laws on whole numbers as bytes: what the texts of the layer 'bits' compute, without any program. What bits.Fold, bits.Unfold and the reference's compute. States as bytes, and which state bytes begin with. No Go text is spoken of. What bits.Var computes. What the reference's Var computes. What model.Text and the reference's Text compute. The law's comparing of lists of numbers: the same ones. What bits.Unvar computes. What the reference's Unvar computes. What model.State and the reference's State compute. What an operation does with a state. No Go text is spoken of. What slices.Clone and model.list compute. -/
import Derived.Test.YtlhgdbangnohjaaBase
import Derived.Test.YtlhgdbangnohjaaRows
import Derived.Test.YtlhgdbangnohjaaRely
import Derived.Test.YtlhgdbangnohjaaInts
import Derived.Deep.QuietTactic
import Derived.BigQuiet
import Derived.Test.YtlhgdbangnohjaaOpPlain
import Derived.Deep.DeepAppendWide
import Derived.Test.YtlhgdbangnohjaaOpLift
namespace Go.Proofs.Ytlhgdbangnohjaa

/-- The lowest k bytes of a number, the lowest one first. -/
def leB : Nat → Nat → List UInt8
  | 0, _ => []
  | k+1, n => UInt8.ofNat (n % 256) :: leB k (n / 256)

theorem leB_length (k : Nat) : ∀ n, (leB k n).length = k := by
  induction k with
  | zero => intro n; rfl
  | succ k ih => intro n; simp [leB, ih]

theorem leB_snoc (k : Nat) : ∀ n, leB (k + 1) n = leB k n ++ [UInt8.ofNat (n / 2 ^ (8 * k) % 256)] := by
  induction k with
  | zero => intro n; simp [leB]
  | succ k ih =>
    intro n
    have e : n / 256 / 2 ^ (8 * k) = n / 2 ^ (8 * (k + 1)) := by
      rw [Nat.div_div_eq_div_mul, show 8 * (k + 1) = 8 + 8 * k by omega, Nat.pow_add]
    rw [leB, ih (n / 256), e, leB, List.cons_append]

theorem leB_div (j n : Nat) : n / 2 ^ (8 * j) / 256 = n / 2 ^ (8 * (j + 1)) := by
  rw [Nat.div_div_eq_div_mul, show 8 * (j + 1) = 8 * j + 8 by omega, Nat.pow_add]
/-- A text as a number, its first byte the lowest. -/
def leV : List UInt8 → Nat
  | [] => 0
  | b :: l => b.toNat + 256 * leV l

theorem leV_snoc (l : List UInt8) (b : UInt8) : leV (l ++ [b]) = leV l + b.toNat * 256 ^ l.length := by
  induction l with
  | nil => simp [leV]
  | cons c l ih =>
    simp only [List.cons_append, leV, ih, List.length_cons, Nat.pow_succ]
    rw [Nat.mul_add]
    have : 256 * (b.toNat * 256 ^ l.length) = b.toNat * (256 ^ l.length * 256) := by
      rw [← Nat.mul_assoc, Nat.mul_comm 256 b.toNat, Nat.mul_assoc, Nat.mul_comm 256 _]
    omega

theorem leV_lt (l : List UInt8) : leV l < 256 ^ l.length := by
  induction l with
  | nil => simp [leV]
  | cons b l ih =>
    simp only [leV, List.length_cons, Nat.pow_succ]
    have := b.toNat_lt
    omega

theorem leV_leB (k : Nat) : ∀ n, leV (leB k n) = n % 256 ^ k := by
  induction k with
  | zero => intro n; simp [leB, leV, Nat.mod_one]
  | succ k ih =>
    intro n
    have e : (UInt8.ofNat (n % 256)).toNat = n % 256 := by simp
    rw [leB, leV, ih, e, Nat.pow_succ, Nat.mul_comm (256 ^ k) 256, Nat.mod_mul]

theorem take_snoc (l : List UInt8) (j : Nat) (h : j < l.length) : l.take (j + 1) = l.take j ++ [l[j]] := by
  rw [List.take_succ_eq_append_getElem h]

theorem pow256 (j : Nat) : (256 : Nat) ^ j = 2 ^ (8 * j) := by rw [Nat.pow_mul]

theorem pow256_le (j : Nat) (h : j ≤ 7) : 256 ^ j ≤ 72057594037927936 := by
  have : (256 : Nat) ^ j ≤ 256 ^ 7 := Nat.pow_le_pow_right (by omega) h
  simpa using this

/-- The number behind one byte more. -/
theorem leV_step (l : List UInt8) (j : Nat) (h : j < l.length) : leV (l.take (j + 1)) = leV (l.take j) + l[j].toNat * 256 ^ j := by
  rw [take_snoc l j h, leV_snoc, List.length_take, Nat.min_eq_left (by omega)]

theorem leV_take_lt (l : List UInt8) (j : Nat) : leV (l.take j) < 256 ^ j :=
  Nat.lt_of_lt_of_le (leV_lt _) (Nat.pow_le_pow_right (by omega) (by simp; omega))

theorem mul_lt64 (b p : Nat) (hb : b < 256) (hp : p ≤ 72057594037927936) : b * p < 18446744073709551616 :=
  Nat.lt_of_le_of_lt (Nat.mul_le_mul (Nat.le_of_lt_succ (show b < 255 + 1 by omega)) hp) (by omega)

theorem leV_or (l : List UInt8) (j V : Nat) (h : j < l.length) (h8 : j < 8) (hV : V = leV (l.take j)) :
    bits .or .u64 (V : Int) (IntKind.u64.wrap (IntKind.u64.wrap (l[j].toNat : Int) * 2 ^ (8 * j))) = ((leV (l.take (j + 1)) : Nat) : Int) := by
  have hb := l[j].toNat_lt
  have hp := pow256_le j (by omega)
  have hm := mul_lt64 l[j].toNat (256 ^ j) hb hp
  have hVl : V < 256 ^ j := by rw [hV]; exact leV_take_lt l j
  have e1 : IntKind.u64.wrap (l[j].toNat : Int) = (l[j].toNat : Int) := by rw [IntKind.wrap_u64]; omega
  have e2 : (l[j].toNat : Int) * 2 ^ (8 * j) = ((l[j].toNat * 256 ^ j : Nat) : Int) := by rw [pow256]; simp
  have e3 : IntKind.u64.wrap ((l[j].toNat * 256 ^ j : Nat) : Int) = ((l[j].toNat * 256 ^ j : Nat) : Int) := by rw [IntKind.wrap_u64]; omega
  rw [e1, e2, e3, u64_or_nat V (l[j].toNat * 256 ^ j) (by omega) (by omega), Nat.or_comm]
  rw [nat_join (8 * j) (l[j].toNat * 256 ^ j) V (by rw [pow256]; simp) (by rw [← pow256]; exact hVl), leV_step l j h, ← hV, Nat.add_comm]

theorem leV_add (l : List UInt8) (j V U : Nat) (h : j < l.length) (h8 : j < 8) (hV : V = leV (l.take j)) (hU : U = 256 ^ j % 18446744073709551616) :
    IntKind.u64.wrap ((V : Int) + IntKind.u64.wrap (IntKind.u64.wrap (l[j].toNat : Int) * (U : Int))) = ((leV (l.take (j + 1)) : Nat) : Int) := by
  have hb := l[j].toNat_lt
  have hp := pow256_le j (by omega)
  have hm := mul_lt64 l[j].toNat (256 ^ j) hb hp
  have hVl : leV (l.take (j + 1)) < 18446744073709551616 := Nat.lt_of_lt_of_le (leV_take_lt l (j + 1)) (by have := pow256_le j (by omega); rw [Nat.pow_succ]; omega)
  have hUe : U = 256 ^ j := by rw [hU]; exact Nat.mod_eq_of_lt (Nat.lt_of_le_of_lt hp (by decide))
  have e1 : IntKind.u64.wrap (l[j].toNat : Int) = (l[j].toNat : Int) := by rw [IntKind.wrap_u64]; omega
  have e2 : (l[j].toNat : Int) * (U : Int) = ((l[j].toNat * 256 ^ j : Nat) : Int) := by rw [hUe]; simp
  have e3 : IntKind.u64.wrap ((l[j].toNat * 256 ^ j : Nat) : Int) = ((l[j].toNat * 256 ^ j : Nat) : Int) := by rw [IntKind.wrap_u64]; omega
  have st := leV_step l j h
  rw [← hV] at st
  rw [e1, e2, e3, IntKind.wrap_u64]
  omega

theorem unit_step (j U : Nat) (hU : U = 256 ^ j % 18446744073709551616) : IntKind.u64.wrap ((U : Int) * 256) = ((256 ^ (j + 1) % 18446744073709551616 : Nat) : Int) := by
  rw [IntKind.wrap_u64, Nat.pow_succ]
  omega

/-- Each byte with every bit turned. -/
def notL (l : List UInt8) : List UInt8 := l.map fun b => UInt8.ofNat (255 - b.toNat)

theorem notL_length (l : List UInt8) : (notL l).length = l.length := by simp [notL]

theorem xor255 : ∀ b : Nat, b < 256 → b ^^^ 255 = 255 - b := by decide +kernel

theorem xor_u8 (b : UInt8) : bits .xor .u8 (b.toNat : Int) 255 = ((UInt8.ofNat (255 - b.toNat)).toNat : Int) := by
  have hb := b.toNat_lt
  have h := u8_xor_nat b.toNat 255 hb (by omega)
  rw [show ((255 : Nat) : Int) = (255 : Int) from rfl] at h
  rw [h, xor255 _ hb]
  simp
  omega

theorem sub_u8 (b : UInt8) : (255 : Int) - (b.toNat : Int) = ((UInt8.ofNat (255 - b.toNat)).toNat : Int) := by
  have hb := b.toNat_lt
  simp
  omega

theorem notL_notL (l : List UInt8) : notL (notL l) = l := by
  unfold notL
  rw [List.map_map]
  conv => rhs; rw [← List.map_id l]
  apply List.map_congr_left
  intro b _
  have hb := b.toNat_lt
  apply UInt8.toNat_inj.1
  simp
  omega

theorem notL_get (l : List UInt8) (j : Nat) (h : j < (notL l).length) : (notL l)[j] = UInt8.ofNat (255 - (l[j]'(by simpa [notL] using h)).toNat) := by simp [notL]

/-! ### Eight bytes in order -/
/-- An integer's place among all, from 0 on. -/
def ordU (n : Int) : Nat := (n + 9223372036854775808).toNat
/-- Eight bytes, the highest first. -/
def beB (n : Nat) : List UInt8 := (leB 8 n).reverse
def beV (l : List UInt8) : Nat := leV l.reverse
/-- An integer as eight bytes in order; and what eight bytes are of that. -/
def ordL (n : Int) : List UInt8 := beB (ordU n)
def unordV (l : List UInt8) : Int := (beV l : Int) - 9223372036854775808

theorem beB_length (n : Nat) : (beB n).length = 8 := by simp [beB, leB_length]
theorem ordL_length (n : Int) : (ordL n).length = 8 := beB_length _
theorem ordU_lt (n : Int) (h1 : -9223372036854775808 ≤ n) (h2 : n ≤ 9223372036854775807) : ordU n < 18446744073709551616 := by unfold ordU; omega
theorem beV_beB (n : Nat) (h : n < 18446744073709551616) : beV (beB n) = n := by
  unfold beV beB
  rw [List.reverse_reverse, leV_leB]
  exact Nat.mod_eq_of_lt h
theorem unordV_ordL (n : Int) (h1 : -9223372036854775808 ≤ n) (h2 : n ≤ 9223372036854775807) : unordV (ordL n) = n := by
  unfold unordV ordL
  rw [beV_beB _ (ordU_lt n h1 h2)]
  unfold ordU
  omega
theorem beV_lt (l : List UInt8) : beV l < 256 ^ l.length := by have := leV_lt l.reverse; simpa [beV] using this
theorem leB_leV (l : List UInt8) : leB l.length (leV l) = l := by
  induction l with
  | nil => rfl
  | cons b l ih =>
    have hb := b.toNat_lt
    rw [List.length_cons, leB, leV]
    congr 1
    · apply UInt8.toNat_inj.1
      simp
    · rw [show (b.toNat + 256 * leV l) / 256 = leV l by omega]
      exact ih
theorem ordL_unordV (l : List UInt8) (h : l.length = 8) : ordL (unordV l) = l := by
  have hl := beV_lt l
  rw [h] at hl
  have e : ordU (unordV l) = beV l := by unfold ordU unordV; omega
  unfold ordL
  rw [e]
  unfold beB beV
  have := leB_leV l.reverse
  rw [List.length_reverse, h] at this
  rw [this, List.reverse_reverse]
theorem unordV_bd (l : List UInt8) (h : l.length = 8) : -9223372036854775808 ≤ unordV l ∧ unordV l ≤ 9223372036854775807 := by
  have hl := beV_lt l
  rw [h] at hl
  unfold unordV
  omega

theorem xor_top (x : Nat) (h : x < 18446744073709551616) : x ^^^ 9223372036854775808 = (x + 9223372036854775808) % 18446744073709551616 := by
  have hm : (x ^^^ 9223372036854775808) % 2 ^ 63 = x % 2 ^ 63 := by
    rw [Nat.xor_mod_two_pow, show 9223372036854775808 % 2 ^ 63 = 0 from rfl, Nat.xor_zero]
  have hd : (x ^^^ 9223372036854775808) / 2 ^ 63 = x / 2 ^ 63 ^^^ 1 := by
    rw [Nat.xor_div_two_pow]
  have hx : x / 2 ^ 63 = 0 ∨ x / 2 ^ 63 = 1 := by omega
  rcases hx with e | e
  · rw [e, show 0 ^^^ 1 = 1 from rfl] at hd
    omega
  · rw [e, show 1 ^^^ 1 = 0 from rfl] at hd
    omega

theorem ord_bits (n : Int) (h1 : -9223372036854775808 ≤ n) (h2 : n ≤ 9223372036854775807) : bits .xor .u64 (IntKind.u64.wrap n) 9223372036854775808 = (ordU n : Int) := by
  have e : IntKind.u64.wrap n = ((n % 18446744073709551616).toNat : Int) := by rw [IntKind.wrap_u64]; omega
  have hx := u64_xor_nat (n % 18446744073709551616).toNat 9223372036854775808 (by omega) (by omega)
  rw [show ((9223372036854775808 : Nat) : Int) = 9223372036854775808 from rfl] at hx
  rw [e, hx, xor_top _ (by omega)]
  unfold ordU
  omega
theorem ord_add (n : Int) (h1 : -9223372036854775808 ≤ n) (h2 : n ≤ 9223372036854775807) : IntKind.u64.wrap (IntKind.u64.wrap n + 9223372036854775808) = (ordU n : Int) := by
  rw [IntKind.wrap_u64, IntKind.wrap_u64]
  unfold ordU
  omega
theorem unord_bits (U : Nat) (h : U < 18446744073709551616) : RowKit.wrap64 (bits .xor .u64 (U : Int) 9223372036854775808) = (U : Int) - 9223372036854775808 := by
  have hx := u64_xor_nat U 9223372036854775808 h (by omega)
  rw [show ((9223372036854775808 : Nat) : Int) = 9223372036854775808 from rfl] at hx
  rw [hx, xor_top _ h]
  unfold RowKit.wrap64
  omega
theorem unord_sub (U : Nat) (h : U < 18446744073709551616) : RowKit.wrap64 (IntKind.u64.wrap ((U : Int) - 9223372036854775808)) = (U : Int) - 9223372036854775808 := by
  rw [IntKind.wrap_u64]
  unfold RowKit.wrap64
  omega

theorem beV_snoc (l : List UInt8) (b : UInt8) : beV (l ++ [b]) = b.toNat + 256 * beV l := by simp [beV, leV]
theorem beV_step (l : List UInt8) (j : Nat) (h : j < l.length) : beV (l.take (j + 1)) = l[j].toNat + 256 * beV (l.take j) := by
  rw [take_snoc l j h, beV_snoc]
theorem beV_take_lt (l : List UInt8) (j : Nat) : beV (l.take j) < 256 ^ j :=
  Nat.lt_of_lt_of_le (beV_lt _) (Nat.pow_le_pow_right (by omega) (by simp; omega))
theorem beV_or (l : List UInt8) (j U : Nat) (h : j < l.length) (h8 : j < 8) (hU : U = beV (l.take j)) :
    bits .or .u64 (IntKind.u64.wrap ((U : Int) * 256)) (IntKind.u64.wrap (l[j].toNat : Int)) = ((beV (l.take (j + 1)) : Nat) : Int) := by
  have hb := l[j].toNat_lt
  have hlt : U < 72057594037927936 := Nat.lt_of_lt_of_le (hU ▸ beV_take_lt l j) (pow256_le j (by omega))
  have e1 : IntKind.u64.wrap ((U : Int) * 256) = ((U * 256 : Nat) : Int) := by rw [IntKind.wrap_u64]; omega
  have e2 : IntKind.u64.wrap (l[j].toNat : Int) = (l[j].toNat : Int) := by rw [IntKind.wrap_u64]; omega
  rw [e1, e2, u64_or_nat _ _ (by omega) (by omega), nat_join 8 (U * 256) _ (by omega) (by omega), beV_step l j h, ← hU]
  omega
theorem beV_add (l : List UInt8) (j U : Nat) (h : j < l.length) (h8 : j < 8) (hU : U = beV (l.take j)) :
    IntKind.u64.wrap (IntKind.u64.wrap ((U : Int) * 256) + IntKind.u64.wrap (l[j].toNat : Int)) = ((beV (l.take (j + 1)) : Nat) : Int) := by
  have hb := l[j].toNat_lt
  have hlt : U < 72057594037927936 := Nat.lt_of_lt_of_le (hU ▸ beV_take_lt l j) (pow256_le j (by omega))
  rw [IntKind.wrap_u64, IntKind.wrap_u64, IntKind.wrap_u64, beV_step l j h, ← hU]
  omega

/-- The bytes of a number, one by one. -/
theorem leB_get (k : Nat) : ∀ (n i : Nat) (h : i < (leB k n).length), (leB k n)[i] = UInt8.ofNat (n / 2 ^ (8 * i) % 256) := by
  induction k with
  | zero => intro n i h; simp [leB] at h
  | succ k ih =>
    intro n i h
    cases i with
    | zero => simp [leB]
    | succ i =>
      simp only [leB, List.getElem_cons_succ]
      rw [ih, Nat.div_div_eq_div_mul, show 8 * (i + 1) = 8 + 8 * i by omega, Nat.pow_add]
theorem beB_get (n i : Nat) (h : i < (beB n).length) : (beB n)[i] = UInt8.ofNat (n / 2 ^ (56 - 8 * i) % 256) := by
  have hi : i < 8 := by rw [beB_length] at h; exact h
  have e : (beB n)[i]? = some (UInt8.ofNat (n / 2 ^ (56 - 8 * i) % 256)) := by
    unfold beB
    rw [List.getElem?_reverse (by rw [leB_length]; exact hi), leB_length, List.getElem?_eq_getElem (by rw [leB_length]; omega), leB_get, show 8 * (8 - 1 - i) = 56 - 8 * i by omega]
  rw [List.getElem?_eq_getElem h] at e
  exact Option.some.inj e

/-! ### Groups of seven bits -/
/-- A number in as few groups of seven bits as it needs, with fuel. -/
def varF : Nat → Nat → List UInt8
  | 0, n => [UInt8.ofNat n]
  | f+1, n => if n < 128 then [UInt8.ofNat n] else UInt8.ofNat (n % 128 + 128) :: varF f (n / 128)
/-- Ten groups serve every number of 64 bits. -/
def varL (n : Nat) : List UInt8 := varF 9 n

theorem varF_fuel (f : Nat) : ∀ (g n : Nat), n < 128 * 128 ^ f → f ≤ g → varF g n = varF f n := by
  induction f with
  | zero =>
    intro g n h _
    have h' : n < 128 := by simpa using h
    cases g with
    | zero => rfl
    | succ g => simp [varF, h']
  | succ f ih =>
    intro g n h hg
    cases g with
    | zero => omega
    | succ g =>
      simp only [varF]
      by_cases h' : n < 128
      · rw [if_pos h', if_pos h']
      · rw [if_neg h', if_neg h', ih g (n / 128) (by rw [Nat.pow_succ] at h; omega) (by omega)]

theorem varL_small (n : Nat) (h : n < 128) : varL n = [UInt8.ofNat n] := by simp [varL, varF, h]
theorem varL_big (n : Nat) (h : ¬ n < 128) (h64 : n < 18446744073709551616) : varL n = UInt8.ofNat (n % 128 + 128) :: varL (n / 128) := by
  unfold varL
  rw [varF, if_neg h]
  congr 1
  rw [varF_fuel 8 9 (n / 128) (by rw [show 128 * 128 ^ 8 = 9223372036854775808 from rfl]; omega) (by omega)]
theorem varF_length (f : Nat) : ∀ n, (varF f n).length ≤ f + 1 := by
  induction f with
  | zero => intro n; simp [varF]
  | succ f ih =>
    intro n
    simp only [varF]
    split
    · simp
    · simp only [List.length_cons]; have := ih (n / 128); omega
theorem varL_length (n : Nat) : (varL n).length ≤ 10 := varF_length 9 n

theorem or128 : ∀ b : Nat, b < 256 → b ||| 128 = b % 128 + 128 := by decide +kernel
theorem var_or (M : Nat) : bits .or .u8 ((M : Int) % 256) 128 = ((UInt8.ofNat (M % 128 + 128)).toNat : Int) := by
  have h := u8_or_nat (M % 256) 128 (by omega) (by omega)
  rw [show ((128 : Nat) : Int) = (128 : Int) from rfl, show ((M % 256 : Nat) : Int) = (M : Int) % 256 by omega] at h
  rw [h, or128 _ (by omega)]
  simp
  omega

/-! ### Which number a text begins with -/
def valV : List UInt8 → Nat
  | [] => 0
  | c :: l => c.toNat % 128 + 128 * valV l
/-- Where the first byte below 128 stands, among so many. -/
def stopAt : Nat → List UInt8 → Option Nat
  | 0, _ => none
  | _, [] => none
  | f+1, c :: l => if c.toNat < 128 then some 0 else (stopAt f l).map (· + 1)
/-- Groups that are no longer than they need to be, and fit 64 bits; c: the last of k + 1. -/
def okLast (k : Nat) (c : UInt8) : Bool := (k == 0 || c.toNat != 0) && (k != 9 || decide (c.toNat ≤ 1))
/-- The number that a text begins with, and how many bytes it has; none: 0 and 0. -/
def unvarP (l : List UInt8) : Nat × Nat := match stopAt 10 l with
  | none => (0, 0)
  | some k => if okLast k (l.getD k 0) then (valV (l.take (k + 1)), k + 1) else (0, 0)

theorem stopAt_some (j : Nat) : ∀ (f : Nat) (l : List UInt8), j < f → j < l.length → (∀ i, i < j → 128 ≤ (l.getD i 0).toNat) → (l.getD j 0).toNat < 128 → stopAt f l = some j := by
  induction j with
  | zero =>
    intro f l hf hl _ h
    cases f with
    | zero => omega
    | succ f =>
      cases l with
      | nil => simp at hl
      | cons c l => simp at h; simp [stopAt, h]
  | succ j ih =>
    intro f l hf hl hb h
    cases f with
    | zero => omega
    | succ f =>
      cases l with
      | nil => simp at hl
      | cons c l =>
        have h0 := hb 0 (by omega)
        simp at h0
        have := ih f l (by omega) (by simpa using hl) (fun i hi => by have := hb (i + 1) (by omega); simpa using this) (by simpa using h)
        simp [stopAt, this]
        omega
theorem stopAt_none (f : Nat) : ∀ (l : List UInt8), (∀ i, i < f → i < l.length → 128 ≤ (l.getD i 0).toNat) → stopAt f l = none := by
  induction f with
  | zero => intro l _; cases l <;> rfl
  | succ f ih =>
    intro l hb
    cases l with
    | nil => rfl
    | cons c l =>
      have h0 := hb 0 (by omega) (by simp)
      simp at h0
      have := ih l (fun i hi hl => by have := hb (i + 1) (by omega) (by simpa using hl); simpa using this)
      simp [stopAt, this]
      omega

theorem valV_snoc (l : List UInt8) (c : UInt8) : valV (l ++ [c]) = valV l + c.toNat % 128 * 128 ^ l.length := by
  induction l with
  | nil => simp [valV]
  | cons b l ih =>
    simp only [List.cons_append, valV, ih, List.length_cons, Nat.pow_succ]
    rw [Nat.mul_add]
    have : 128 * (c.toNat % 128 * 128 ^ l.length) = c.toNat % 128 * (128 ^ l.length * 128) := by
      rw [← Nat.mul_assoc, Nat.mul_comm 128 (c.toNat % 128), Nat.mul_assoc, Nat.mul_comm 128 _]
    omega
theorem valV_lt (l : List UInt8) : valV l < 128 ^ l.length := by
  induction l with
  | nil => simp [valV]
  | cons b l ih =>
    simp only [valV, List.length_cons, Nat.pow_succ]
    omega
theorem valV_step (l : List UInt8) (j : Nat) (h : j < l.length) : valV (l.take (j + 1)) = valV (l.take j) + l[j].toNat % 128 * 128 ^ j := by
  rw [take_snoc l j h, valV_snoc, List.length_take, Nat.min_eq_left (by omega)]
theorem valV_take_lt (l : List UInt8) (j : Nat) : valV (l.take j) < 128 ^ j :=
  Nat.lt_of_lt_of_le (valV_lt _) (Nat.pow_le_pow_right (by omega) (by simp; omega))
theorem pow128 (j : Nat) : (128 : Nat) ^ j = 2 ^ (7 * j) := by rw [Nat.pow_mul]
theorem pow128_le (j : Nat) (h : j ≤ 9) : 128 ^ j ≤ 9223372036854775808 := by
  have : (128 : Nat) ^ j ≤ 128 ^ 9 := Nat.pow_le_pow_right (by omega) h
  simpa using this
theorem pow128_le8 (j : Nat) (h : j ≤ 8) : 128 ^ j ≤ 72057594037927936 := by
  have : (128 : Nat) ^ j ≤ 128 ^ 8 := Nat.pow_le_pow_right (by omega) h
  simpa using this
theorem mul_le (a b p q : Nat) (h : a ≤ p) (k : b ≤ q) : a * b ≤ p * q := Nat.mul_le_mul h k

theorem and127 : ∀ b : Nat, b < 256 → b &&& 127 = b % 128 := by decide +kernel
/-- One group more, as the program takes it in. -/
theorem valV_or (l : List UInt8) (j V : Nat) (h : j < l.length) (h9 : j < 9 ∨ j = 9 ∧ l[j].toNat ≤ 1) (hV : V = valV (l.take j)) :
    bits .or .u64 (V : Int) (IntKind.u64.wrap (IntKind.u64.wrap (bits .and .u8 (l[j].toNat : Int) 127) * 2 ^ (7 * j))) = ((valV (l.take (j + 1)) : Nat) : Int) := by
  have hb := l[j].toNat_lt
  have hVl : V < 128 ^ j := by rw [hV]; exact valV_take_lt l j
  have hp9 := pow128_le j (by omega)
  have ha : bits .and .u8 (l[j].toNat : Int) 127 = ((l[j].toNat % 128 : Nat) : Int) := by
    have := u8_and_nat l[j].toNat 127 hb (by omega)
    rw [show ((127 : Nat) : Int) = 127 from rfl] at this
    rw [this, and127 _ hb]
  have hm : l[j].toNat % 128 * 128 ^ j < 18446744073709551616 := by
    rcases h9 with h8 | ⟨h8, h1⟩
    · have := mul_le (l[j].toNat % 128) (128 ^ j) 127 72057594037927936 (by omega) (pow128_le8 j (by omega))
      omega
    · have := mul_le (l[j].toNat % 128) (128 ^ j) 1 9223372036854775808 (by omega) hp9
      omega
  have e1 : IntKind.u64.wrap ((l[j].toNat % 128 : Nat) : Int) = ((l[j].toNat % 128 : Nat) : Int) := by rw [IntKind.wrap_u64]; omega
  have e2 : ((l[j].toNat % 128 : Nat) : Int) * 2 ^ (7 * j) = ((l[j].toNat % 128 * 128 ^ j : Nat) : Int) := by rw [pow128]; simp
  have e3 : IntKind.u64.wrap ((l[j].toNat % 128 * 128 ^ j : Nat) : Int) = ((l[j].toNat % 128 * 128 ^ j : Nat) : Int) := by rw [IntKind.wrap_u64]; omega
  rw [ha, e1, e2, e3, u64_or_nat V (l[j].toNat % 128 * 128 ^ j) (by omega) hm, Nat.or_comm]
  rw [nat_join (7 * j) (l[j].toNat % 128 * 128 ^ j) V (by rw [pow128]; simp) (by rw [← pow128]; exact hVl), valV_step l j h, ← hV, Nat.add_comm]
/-- One group more, as the reference takes it in. -/
theorem valV_add (l : List UInt8) (j V U : Nat) (h : j < l.length) (hV : V = valV (l.take j)) (hU : U = 128 ^ j % 18446744073709551616) (h9 : j ≤ 9) :
    IntKind.u64.wrap ((V : Int) + IntKind.u64.wrap ((l[j].toNat : Int) % 128 * (U : Int))) = ((valV (l.take (j + 1)) % 18446744073709551616 : Nat) : Int) := by
  have hp9 := pow128_le j h9
  have hUe : U = 128 ^ j := by rw [hU]; exact Nat.mod_eq_of_lt (Nat.lt_of_le_of_lt hp9 (by decide))
  have e1 : (l[j].toNat : Int) % 128 = ((l[j].toNat % 128 : Nat) : Int) := by omega
  have e2 : ((l[j].toNat % 128 : Nat) : Int) * (U : Int) = ((l[j].toNat % 128 * 128 ^ j : Nat) : Int) := by rw [hUe]; simp
  have st := valV_step l j h
  rw [← hV] at st
  rw [e1, e2, IntKind.wrap_u64, IntKind.wrap_u64, st]
  omega
theorem unit128_step (j U : Nat) (hU : U = 128 ^ j % 18446744073709551616) : IntKind.u64.wrap ((U : Int) * 128) = ((128 ^ (j + 1) % 18446744073709551616 : Nat) : Int) := by
  rw [IntKind.wrap_u64, Nat.pow_succ]
  omega

/-- Groups as they are written: all but the last from 128 on, the last below, and not 0 if it isn't alone. -/
def Can : List UInt8 → Prop
  | [] => False
  | [c] => c.toNat < 128
  | c :: d :: l => 128 ≤ c.toNat ∧ Can (d :: l) ∧ d :: l ≠ [0]
theorem can_val (l : List UInt8) (h : Can l) (hne : l ≠ [0]) : 1 ≤ valV l := by
  induction l with
  | nil => exact h.elim
  | cons c l ih =>
    cases l with
    | nil =>
      have h' : c.toNat < 128 := h
      have : c.toNat ≠ 0 := fun e => hne (by rw [show c = 0 from UInt8.toNat_inj.1 e])
      simp [valV]
      omega
    | cons d l =>
      have := ih h.2.1 h.2.2
      rw [valV]
      omega
theorem varF_can (f : Nat) : ∀ n, n < 128 * 128 ^ f → Can (varF f n) ∧ (n ≠ 0 → varF f n ≠ [0]) ∧ valV (varF f n) = n := by
  induction f with
  | zero =>
    intro n h
    have h' : n < 128 := by simpa using h
    refine ⟨?_, fun h0 e => ?_, ?_⟩
    · show (UInt8.ofNat n).toNat < 128
      simp
      omega
    · have := congrArg (fun l => (l.getD 0 1).toNat) e
      simp [varF] at this
      omega
    · simp [varF, valV]
      omega
  | succ f ih =>
    intro n h
    simp only [varF]
    by_cases h' : n < 128
    · rw [if_pos h']
      refine ⟨?_, fun h0 e => ?_, ?_⟩
      · show (UInt8.ofNat n).toNat < 128
        simp
        omega
      · have := congrArg (fun l => (l.getD 0 1).toNat) e
        simp at this
        omega
      · simp [valV]
        omega
    · rw [if_neg h']
      obtain ⟨h1, h2, h3⟩ := ih (n / 128) (by rw [Nat.pow_succ] at h; omega)
      have hz := h2 (by omega)
      have e : (UInt8.ofNat (n % 128 + 128)).toNat = n % 128 + 128 := by simp; omega
      refine ⟨?_, fun _ e' => ?_, ?_⟩
      · cases hv : varF f (n / 128) with
        | nil => rw [hv] at h1; exact h1.elim
        | cons d l => rw [hv] at h1 hz; exact ⟨by omega, h1, hz⟩
      · have := congrArg (fun l => (l.getD 0 1).toNat) e'
        simp only [List.getD_cons_zero, e] at this
        simp at this
      · rw [valV, e, h3]
        omega
theorem varL_can (n : Nat) (h : n < 18446744073709551616) : Can (varL n) ∧ (n ≠ 0 → varL n ≠ [0]) ∧ valV (varL n) = n := varF_can 9 n (by rw [show 128 * 128 ^ 9 = 1180591620717411303424 from rfl]; omega)
theorem varL_valV (l : List UInt8) (h : Can l) (h64 : valV l < 18446744073709551616) : varL (valV l) = l := by
  induction l with
  | nil => exact h.elim
  | cons c l ih =>
    have hc := c.toNat_lt
    cases l with
    | nil =>
      have h' : c.toNat < 128 := h
      have e : valV [c] = c.toNat := by simp [valV]; omega
      rw [e, varL_small _ h']
      simp
    | cons d l =>
      have h1 := can_val _ h.2.1 h.2.2
      have h128 : 128 ≤ c.toNat := h.1
      rw [valV] at h64 ⊢
      have hv := ih h.2.1 (by omega)
      rw [varL_big _ (by omega) h64, show (c.toNat % 128 + 128 * valV (d :: l)) / 128 = valV (d :: l) by omega, hv]
      congr 1
      apply UInt8.toNat_inj.1
      simp
      omega
/-- Which beginnings of a text are groups as they are written. -/
theorem can_take (j : Nat) : ∀ (l : List UInt8), j < l.length → (∀ i, i < j → 128 ≤ (l.getD i 0).toNat) → (l.getD j 0).toNat < 128 → (Can (l.take (j + 1)) ↔ (j = 0 ∨ (l.getD j 0).toNat ≠ 0)) := by
  induction j with
  | zero =>
    intro l hl _ h
    cases l with
    | nil => simp at hl
    | cons c l => simp at h; simp [Can, h]
  | succ j ih =>
    intro l hl hb h
    cases l with
    | nil => simp at hl
    | cons c l =>
      have h0 := hb 0 (by omega)
      simp at h0
      have hl' : j < l.length := by simpa using hl
      have hi := ih l hl' (fun i hi => by have := hb (i + 1) (by omega); simpa using this) (by simpa using h)
      have hc1 : (c :: l).getD (j + 1) 0 = l.getD j 0 := by simp
      rw [hc1, List.take_succ_cons]
      cases hlt : l.take (j + 1) with
      | nil =>
        have hlen := congrArg List.length hlt
        rw [List.length_take] at hlen
        simp only [List.length_nil] at hlen
        omega
      | cons d m =>
        rw [hlt] at hi
        have hz : d :: m = [0] ↔ j = 0 ∧ (l.getD j 0).toNat = 0 := by
          rw [← hlt]
          constructor
          · intro e
            have hlen := congrArg List.length e
            rw [List.length_take] at hlen
            simp only [List.length_cons, List.length_nil] at hlen
            have hj : j = 0 := by omega
            subst hj
            cases l with
            | nil => simp at hl'
            | cons x l => simp at e; simp [e]
          · rintro ⟨hj, e⟩
            subst hj
            cases l with
            | nil => simp at hl'
            | cons x l =>
              simp at e
              simp
              exact UInt8.toNat_inj.1 e
        constructor
        · intro hcan
          right
          have h1 := hi.1 hcan.2.1
          rcases h1 with h1 | h1
          · intro e
            exact hcan.2.2 (hz.2 ⟨h1, e⟩)
          · exact h1
        · intro hh
          have hh' : (l.getD j 0).toNat ≠ 0 := by rcases hh with h | h <;> omega
          exact ⟨h0, hi.2 (Or.inr hh'), fun e => hh' (hz.1 e).2⟩
/-- The reference's test at the first byte below 128: as the program's. -/
theorem unvar_test (l : List UInt8) (j : Nat) (hl : j < l.length) (h9 : j ≤ 9) (hb : ∀ i, i < j → 128 ≤ (l.getD i 0).toNat) (h : (l.getD j 0).toNat < 128) :
    (varL (valV (l.take (j + 1)) % 18446744073709551616) == l.take (j + 1)) = okLast j (l.getD j 0) ∧
      (okLast j (l.getD j 0) = true → valV (l.take (j + 1)) % 18446744073709551616 = valV (l.take (j + 1))) := by
  have hc := can_take j l hl hb h
  have hg : l.getD j 0 = l[j] := by simp [List.getD, hl]
  have st := valV_step l j hl
  have hlt := valV_take_lt l j
  have small : (j ≠ 9 ∨ (l.getD j 0).toNat ≤ 1) → valV (l.take (j + 1)) < 18446744073709551616 := by
    intro hh
    rw [st, ← hg]
    by_cases hj : j = 9
    · have := pow128_le j h9
      have := mul_le ((l.getD j 0).toNat % 128) (128 ^ j) 1 9223372036854775808 (by rcases hh with h | h <;> omega) (by omega)
      omega
    · have := pow128_le8 j (by omega)
      have := mul_le ((l.getD j 0).toNat % 128) (128 ^ j) 127 72057594037927936 (by omega) (by omega)
      omega
  have big : j = 9 → 1 < (l.getD j 0).toNat → 18446744073709551616 ≤ valV (l.take (j + 1)) := by
    intro hj h1
    rw [st, ← hg, hj]
    have hm : (l.getD 9 0).toNat % 128 = (l.getD 9 0).toNat := by rw [hj] at h; omega
    rw [hm, show (128 : Nat) ^ 9 = 9223372036854775808 from rfl]
    rw [hj] at h1
    omega
  have hm64 : valV (l.take (j + 1)) % 18446744073709551616 < 18446744073709551616 := Nat.mod_lt _ (by decide)
  by_cases hok : okLast j (l.getD j 0) = true
  · have hok' := hok
    simp only [okLast, Bool.and_eq_true, Bool.or_eq_true, beq_iff_eq, bne_iff_ne, decide_eq_true_eq] at hok'
    have hs := small hok'.2
    have hmod : valV (l.take (j + 1)) % 18446744073709551616 = valV (l.take (j + 1)) := Nat.mod_eq_of_lt hs
    refine ⟨?_, fun _ => hmod⟩
    rw [hok, hmod, varL_valV _ (hc.2 hok'.1) hs]
    simp
  · refine ⟨?_, fun h => absurd h hok⟩
    rw [Bool.not_eq_true] at hok
    rw [hok]
    apply beq_eq_false_iff_ne.2
    intro e
    have hv := varL_can _ hm64
    rw [e] at hv
    have hcan := hc.1 hv.1
    have hval : valV (l.take (j + 1)) < 18446744073709551616 := by rw [hv.2.2]; exact hm64
    have : okLast j (l.getD j 0) = true := by
      simp only [okLast, Bool.and_eq_true, Bool.or_eq_true, beq_iff_eq, bne_iff_ne, decide_eq_true_eq]
      refine ⟨hcan, ?_⟩
      by_cases hj : j = 9
      · right
        rcases Nat.lt_or_ge 1 (l.getD j 0).toNat with h1 | h1
        · have := big hj h1; omega
        · exact h1
      · exact Or.inl hj
    rw [this] at hok
    cases hok
theorem unvarP_at (l : List UInt8) (j : Nat) (hl : j < l.length) (h9 : j ≤ 9) (hb : ∀ i, i < j → 128 ≤ (l.getD i 0).toNat) (h : (l.getD j 0).toNat < 128) :
    unvarP l = if okLast j (l.getD j 0) then (valV (l.take (j + 1)), j + 1) else (0, 0) := by
  unfold unvarP
  rw [stopAt_some j 10 l (by omega) hl hb h]
theorem unvarP_none (l : List UInt8) (hb : ∀ i, i < 10 → i < l.length → 128 ≤ (l.getD i 0).toNat) : unvarP l = (0, 0) := by
  unfold unvarP
  rw [stopAt_none 10 l hb]
theorem unvarP_bd (l : List UInt8) : (unvarP l).1 < 18446744073709551616 ∧ (unvarP l).2 ≤ 10 ∧ (unvarP l).2 ≤ l.length ∧ ((unvarP l).2 = 0 → unvarP l = (0, 0)) := by
  by_cases hn : ∀ i, i < 10 → i < l.length → 128 ≤ (l.getD i 0).toNat
  · rw [unvarP_none l hn]
    simp
  · have hex : ∃ j, j < 10 ∧ j < l.length ∧ (l.getD j 0).toNat < 128 ∧ ∀ i, i < j → 128 ≤ (l.getD i 0).toNat := by
      have h0 : ∃ j, j < 10 ∧ j < l.length ∧ (l.getD j 0).toNat < 128 := by
        simp only [Classical.not_forall] at hn
        obtain ⟨j, h1, h2, h3⟩ := hn
        exact ⟨j, h1, h2, by omega⟩
      obtain ⟨j, hj⟩ := h0
      induction j using Nat.strongRecOn with
      | ind j ih =>
        by_cases hall : ∀ i, i < j → 128 ≤ (l.getD i 0).toNat
        · exact ⟨j, hj.1, hj.2.1, hj.2.2, hall⟩
        · simp only [Classical.not_forall] at hall
          obtain ⟨i, h1, h2⟩ := hall
          exact ih i h1 ⟨by omega, by omega, by omega⟩
    obtain ⟨j, h1, h2, h3, h4⟩ := hex
    rw [unvarP_at l j h2 (by omega) h4 h3]
    have ht := unvar_test l j h2 (by omega) h4 h3
    split
    · rename_i hok
      have := ht.2 hok
      have hm64 : valV (l.take (j + 1)) % 18446744073709551616 < 18446744073709551616 := Nat.mod_lt _ (by decide)
      simp only []
      refine ⟨by omega, by omega, by omega, fun h => by omega⟩
    · simp

/-! ### What is written is read as it was -/
theorem can_bytes (l : List UInt8) (h : Can l) : 1 ≤ l.length ∧ (∀ i, i < l.length - 1 → 128 ≤ (l.getD i 0).toNat) ∧ (l.getD (l.length - 1) 0).toNat < 128 := by
  induction l with
  | nil => exact h.elim
  | cons c l ih =>
    cases l with
    | nil =>
      have h' : c.toNat < 128 := h
      simp
      exact h'
    | cons d l =>
      obtain ⟨h1, h2, h3⟩ := ih h.2.1
      refine ⟨by simp, fun i hi => ?_, ?_⟩
      · cases i with
        | zero => simpa using h.1
        | succ i =>
          have := h2 i (by simp at hi ⊢; omega)
          simpa using this
      · have e : (c :: d :: l).length - 1 = ((d :: l).length - 1) + 1 := by simp
        rw [e, List.getD_cons_succ]
        exact h3
theorem unvarP_varL (n : Nat) (h : n < 18446744073709551616) (rest : List UInt8) : unvarP (varL n ++ rest) = (n, (varL n).length) := by
  obtain ⟨hc, hz, hv⟩ := varL_can n h
  have hl := varL_length n
  obtain ⟨h1, h2, h3⟩ := can_bytes _ hc
  generalize hL : varL n = L at *
  have hg : ∀ i, i < L.length → (L ++ rest).getD i 0 = L.getD i 0 := fun i hi => by
    simp only [List.getD, List.getElem?_append_left hi]
  have ht : (L ++ rest).take (L.length - 1 + 1) = L := by
    rw [show L.length - 1 + 1 = L.length by omega]
    exact List.take_left
  have hb : ∀ i, i < L.length - 1 → 128 ≤ ((L ++ rest).getD i 0).toNat := fun i hi => by rw [hg i (by omega)]; exact h2 i hi
  have hlast : ((L ++ rest).getD (L.length - 1) 0).toNat < 128 := by rw [hg _ (by omega)]; exact h3
  have hlen : L.length - 1 < (L ++ rest).length := by rw [List.length_append]; omega
  have key := unvar_test (L ++ rest) (L.length - 1) hlen (by omega) hb hlast
  rw [ht, hv, Nat.mod_eq_of_lt h, hL] at key
  have hok : okLast (L.length - 1) ((L ++ rest).getD (L.length - 1) 0) = true := by rw [← key.1]; simp
  rw [unvarP_at _ _ hlen (by omega) hb hlast, if_pos hok, ht, hv]
  congr 1
  omega

/-! ### The order of texts -/
theorem beV_cons (b : UInt8) (l : List UInt8) : beV (b :: l) = beV l + b.toNat * 256 ^ l.length := by
  unfold beV
  rw [List.reverse_cons, leV_snoc, List.length_reverse]
theorem bytesLess_beV : ∀ (x y : List UInt8), x.length = y.length → Op.bytesLess x y = decide (beV x < beV y)
  | [], [], _ => by simp [Op.bytesLess, beV, leV]
  | [], _ :: _, h => by simp at h
  | _ :: _, [], h => by simp at h
  | a :: x, b :: y, h => by
    have hl : x.length = y.length := by simpa using h
    have ih := bytesLess_beV x y hl
    rw [Op.bytesLess, ih, beV_cons, beV_cons, hl]
    have hx := beV_lt x
    have hy := beV_lt y
    rw [hl] at hx
    generalize 256 ^ y.length = P at hx hy
    rcases Nat.lt_trichotomy a.toNat b.toNat with h1 | h1 | h1
    · have e1 : (decide (a < b)) = true := by simp [UInt8.lt_iff_toNat_lt, h1]
      have hm : (a.toNat + 1) * P ≤ b.toNat * P := Nat.mul_le_mul_right P h1
      rw [Nat.add_mul] at hm
      have : beV x + a.toNat * P < beV y + b.toNat * P := by omega
      simp [e1, this]
    · have e : a = b := UInt8.toNat_inj.1 h1
      subst e
      simp
    · have e1 : (decide (a < b)) = false := by simp [UInt8.lt_iff_toNat_lt]; omega
      have e2 : (a == b) = false := by
        apply beq_eq_false_iff_ne.2
        intro e
        rw [e] at h1
        omega
      have hm : (b.toNat + 1) * P ≤ a.toNat * P := Nat.mul_le_mul_right P h1
      rw [Nat.add_mul] at hm
      have : ¬ (beV x + a.toNat * P < beV y + b.toNat * P) := by omega
      simp [e1, e2]
      omega
theorem ordL_less (a b : Int) (a1 : -9223372036854775808 ≤ a) (a2 : a ≤ 9223372036854775807) (b1 : -9223372036854775808 ≤ b) (b2 : b ≤ 9223372036854775807) : Op.bytesLess (ordL a) (ordL b) = decide (a < b) := by
  rw [bytesLess_beV _ _ (by rw [ordL_length, ordL_length])]
  unfold ordL
  rw [beV_beB _ (ordU_lt a a1 a2), beV_beB _ (ordU_lt b b1 b2)]
  unfold ordU
  simp
  omega
theorem ordL_eq (a b : Int) (a1 : -9223372036854775808 ≤ a) (a2 : a ≤ 9223372036854775807) (b1 : -9223372036854775808 ≤ b) (b2 : b ≤ 9223372036854775807) : (ordL a == ordL b) = (a == b) := by
  rw [Bool.eq_iff_iff, beq_iff_eq, beq_iff_eq]
  constructor
  · intro h
    rw [← unordV_ordL a a1 a2, h, unordV_ordL b b1 b2]
  · intro h
    rw [h]
end Go.Proofs.Ytlhgdbangnohjaa
namespace Go.Proofs.Ytlhgdbangnohjaa
open Go.RowKit
set_option linter.unusedVariables false
/-- A number folded: near ones of either sign are small; and unfolded. -/
def foldV (n : Int) : Int := if 0 ≤ n then 2 * n else -2 * n - 1
def unfoldV (u : Int) : Int := if u % 2 = 0 then u / 2 else -1 - u / 2

theorem foldV_bd (n : Int) (h1 : -9223372036854775808 ≤ n) (h2 : n ≤ 9223372036854775807) : 0 ≤ foldV n ∧ foldV n ≤ 18446744073709551615 := by unfold foldV; split <;> omega
theorem unfoldV_bd (u : Int) (h1 : 0 ≤ u) (h2 : u ≤ 18446744073709551615) : -9223372036854775808 ≤ unfoldV u ∧ unfoldV u ≤ 9223372036854775807 := by unfold unfoldV; split <;> omega
theorem unfoldV_foldV (n : Int) : unfoldV (foldV n) = n := by unfold unfoldV foldV; split <;> split <;> omega
theorem foldV_unfoldV (u : Int) (h : 0 ≤ u) : foldV (unfoldV u) = u := by unfold unfoldV foldV; split <;> split <;> omega

theorem xor_max (a : Nat) (h : a < 18446744073709551616) : a ^^^ 18446744073709551615 = 18446744073709551615 - a := by
  have h1 : (BitVec.ofNat 64 a ^^^ BitVec.allOnes 64).toNat = (~~~ BitVec.ofNat 64 a).toNat := by rw [BitVec.xor_allOnes]
  have e : (BitVec.allOnes 64).toNat = 18446744073709551615 := by decide
  rw [BitVec.toNat_xor, BitVec.toNat_not, BitVec.toNat_ofNat, e, show (2 : Nat) ^ 64 = 18446744073709551616 from rfl, Nat.mod_eq_of_lt h] at h1
  omega

theorem fold_bits (n : Int) (h1 : -9223372036854775808 ≤ n) (h2 : n ≤ 9223372036854775807) :
    bits .xor .u64 (IntKind.u64.wrap (IntKind.u64.wrap n * 2)) (IntKind.u64.wrap (n / 9223372036854775808)) = foldV n := by
  unfold foldV
  by_cases h : 0 ≤ n
  · rw [if_pos h]
    have e1 : IntKind.u64.wrap (IntKind.u64.wrap n * 2) = ((2 * n).toNat : Int) := by rw [IntKind.wrap_u64, IntKind.wrap_u64]; omega
    have e2 : IntKind.u64.wrap (n / 9223372036854775808) = ((0 : Nat) : Int) := by rw [IntKind.wrap_u64]; omega
    rw [e1, e2, u64_xor_nat _ 0 (by omega) (by omega), Nat.xor_zero]
    omega
  · rw [if_neg h]
    have e1 : IntKind.u64.wrap (IntKind.u64.wrap n * 2) = ((2 * n + 18446744073709551616).toNat : Int) := by rw [IntKind.wrap_u64, IntKind.wrap_u64]; omega
    have e2 : IntKind.u64.wrap (n / 9223372036854775808) = ((18446744073709551615 : Nat) : Int) := by rw [IntKind.wrap_u64]; omega
    rw [e1, e2, u64_xor_nat _ 18446744073709551615 (by omega) (by omega), xor_max _ (by omega)]
    omega

theorem xor_i64 (a b : Int) (x y : Nat) (hx : x < 18446744073709551616) (hy : y < 18446744073709551616) (ha : a % 18446744073709551616 = x) (hb : b % 18446744073709551616 = y) :
    bits .xor .i64 a b = wrap64 ((x ^^^ y : Nat) : Int) := by
  have h1 : (BitVec.ofInt 64 a).toNat = x := by rw [BitVec.toNat_ofInt, show ((2 ^ 64 : Nat) : Int) = 18446744073709551616 from rfl, ha, Int.toNat_natCast]
  have h2 : (BitVec.ofInt 64 b).toNat = y := by rw [BitVec.toNat_ofInt, show ((2 ^ 64 : Nat) : Int) = 18446744073709551616 from rfl, hb, Int.toNat_natCast]
  show IntKind.i64.wrap ((BitVec.ofInt 64 a ^^^ BitVec.ofInt 64 b).toNat : Int) = _
  rw [BitVec.toNat_xor, h1, h2]
  unfold wrap64
  rw [IntKind.wrap_i64]

theorem unfold_bits (n : Int) (h1 : 0 ≤ n) (h2 : n ≤ 18446744073709551615) :
    bits .xor .i64 (n / 2) (wrap64 (-wrap64 (bits .and .u64 n 1))) = unfoldV n := by
  have ea : bits .and .u64 n 1 = n % 2 := by
    obtain ⟨m, rfl⟩ := Int.eq_ofNat_of_zero_le h1
    have := u64_and_nat m 1 (by omega) (by omega)
    rw [show ((1 : Nat) : Int) = 1 from rfl] at this
    rw [this, nat_mask1]
    omega
  rw [ea]
  unfold unfoldV
  by_cases h : n % 2 = 0
  · rw [if_pos h, xor_i64 _ _ (n / 2).toNat 0 (by omega) (by omega) (by omega) (by rw [h]; unfold wrap64; omega), Nat.xor_zero]
    unfold wrap64
    omega
  · have e : n % 2 = 1 := by omega
    rw [if_neg h, e, xor_i64 _ _ (n / 2).toNat 18446744073709551615 (by omega) (by omega) (by omega) (by unfold wrap64; omega), xor_max _ (by omega)]
    unfold wrap64
    omega

end Go.Proofs.Ytlhgdbangnohjaa
namespace Go.Proofs.Ytlhgdbangnohjaa
open Go.RowKit
set_option linter.unusedVariables false
set_option linter.unusedSimpArgs false
/-- The numbers of a state as bytes. -/
def numsL (xs : List Int) : List UInt8 := xs.flatMap fun n => varL (foldV n).toNat
def textL (xs : List Int) : List UInt8 := varL xs.length ++ numsL xs
theorem numsL_take (xs : List Int) (k : Nat) (h : k < xs.length) : numsL (xs.take (k + 1)) = numsL (xs.take k) ++ varL (foldV xs[k]).toNat := by
  unfold numsL
  rw [List.take_succ_eq_append_getElem h, List.flatMap_append]
  simp only [List.flatMap_cons, List.flatMap_nil, List.append_nil]
theorem numsL_length : ∀ xs : List Int, (numsL xs).length ≤ 10 * xs.length
  | [] => by simp [numsL]
  | n :: xs => by
    have h1 := varL_length (foldV n).toNat
    have h2 := numsL_length xs
    show (varL (foldV n).toNat ++ numsL xs).length ≤ _
    rw [List.length_append, List.length_cons]
    omega
/-- So many numbers of a text, and how many bytes they have. -/
def rdN : Nat → List UInt8 → Option (List Int × Nat)
  | 0, _ => some ([], 0)
  | m + 1, L => if (unvarP L).2 = 0 then none else (rdN m (L.drop (unvarP L).2)).map fun p => (unfoldV ((unvarP L).1 : Int) :: p.1, (unvarP L).2 + p.2)
def stateL (L : List UInt8) : List Int × Nat :=
  if (unvarP L).2 = 0 ∨ L.length < (unvarP L).1 then ([], 0) else match rdN (unvarP L).1 (L.drop (unvarP L).2) with
    | none => ([], 0)
    | some (l, j) => (l, (unvarP L).2 + j)
theorem rdN_len : ∀ (m : Nat) (L : List UInt8) (p : List Int × Nat), rdN m L = some p → p.1.length = m ∧ m ≤ L.length ∧ p.2 ≤ L.length
  | 0, L, p, h => by
    simp only [rdN, Option.some.injEq] at h
    subst h
    simp
  | m + 1, L, p, h => by
    unfold rdN at h
    split at h
    · cases h
    · rename_i hk
      obtain ⟨q, hq, rfl⟩ := Option.map_eq_some_iff.1 h
      obtain ⟨h1, h2, h3⟩ := rdN_len m _ _ hq
      obtain ⟨_, _, h4, _⟩ := unvarP_bd L
      rw [List.length_drop] at h2 h3
      simp only [List.length_cons]
      omega
theorem varL_posM (n : Nat) (h : n < 18446744073709551616) : 0 < (varL n).length := by
  have := (varL_can n h).1
  cases hh : varL n with
  | nil => rw [hh] at this; exact absurd this (by simp [Can])
  | cons a l => simp
theorem rdN_nums : ∀ (xs : List Int) (rest : List UInt8), (∀ n ∈ xs, -9223372036854775808 ≤ n ∧ n ≤ 9223372036854775807) → rdN xs.length (numsL xs ++ rest) = some (xs, (numsL xs).length)
  | [], rest, _ => rfl
  | n :: xs, rest, h => by
    obtain ⟨h1, h2⟩ := h n (by simp)
    obtain ⟨f1, f2⟩ := foldV_bd n h1 h2
    have hlt : (foldV n).toNat < 18446744073709551616 := by omega
    have hp := varL_posM _ hlt
    have e : numsL (n :: xs) ++ rest = varL (foldV n).toNat ++ (numsL xs ++ rest) := by show (varL (foldV n).toNat ++ numsL xs) ++ rest = _; rw [List.append_assoc]
    have el : (numsL (n :: xs)).length = (varL (foldV n).toNat).length + (numsL xs).length := by show (varL (foldV n).toNat ++ numsL xs).length = _; rw [List.length_append]
    rw [e, el]
    show rdN (xs.length + 1) _ = _
    unfold rdN
    rw [unvarP_varL _ hlt, if_neg (by omega)]
    simp only
    rw [List.drop_left, rdN_nums xs rest (fun m hm => h m (by simp [hm]))]
    simp only [Option.map_some, Option.some.injEq, Prod.mk.injEq, List.cons.injEq, and_true]
    rw [show (((foldV n).toNat : Nat) : Int) = foldV n by omega]
    exact unfoldV_foldV n
/-- A state that is written is read as it was, whatever stands behind it. -/
theorem state_text (xs : List Int) (rest : List UInt8) (h : ∀ n ∈ xs, -9223372036854775808 ≤ n ∧ n ≤ 9223372036854775807) (hl : xs.length < 18446744073709551616) :
    unvarP (textL xs ++ rest) = (xs.length, (varL xs.length).length) ∧ stateL (textL xs ++ rest) = (xs, (textL xs).length) := by
  have e : textL xs ++ rest = varL xs.length ++ (numsL xs ++ rest) := by unfold textL; rw [List.append_assoc]
  have hu := unvarP_varL xs.length hl (numsL xs ++ rest)
  have hp := varL_posM xs.length hl
  have hr := rdN_nums xs rest h
  obtain ⟨_, h2, _⟩ := rdN_len _ _ _ hr
  refine ⟨by rw [e, hu], ?_⟩
  rw [e]
  unfold stateL
  rw [hu]
  simp only
  rw [if_neg (by rw [List.length_append]; omega), List.drop_left, hr]
  simp only [textL, List.length_append]
/-- The reading's steps. -/
theorem rdN_step {m : Nat} {L : List UInt8} (hk : (unvarP L).2 ≠ 0) : rdN (m + 1) L = (rdN m (L.drop (unvarP L).2)).map fun p => (unfoldV ((unvarP L).1 : Int) :: p.1, (unvarP L).2 + p.2) := by
  conv => lhs; unfold rdN
  rw [if_neg hk]
theorem rdN_fail {m : Nat} {L : List UInt8} (hk : (unvarP L).2 = 0) : rdN (m + 1) L = none := by
  unfold rdN
  rw [if_pos hk]
end Go.Proofs.Ytlhgdbangnohjaa
namespace Go.Proofs.Ytlhgdbangnohjaa
open Go.RowKit
set_option linter.unusedVariables false
theorem Try.infoVar : Info Try.prog 5 (.int .u8 0) 1 1 := by unfold Info; kernel_rfl
end Go.Proofs.Ytlhgdbangnohjaa
namespace Go.Proofs.Ytlhgdbangnohjaa
open Go.RowKit
set_option linter.unusedVariables false
end Go.Proofs.Ytlhgdbangnohjaa
namespace Go.Proofs.Ytlhgdbangnohjaa
open Go.RowKit
set_option linter.unusedVariables false
set_option linter.unusedSimpArgs false
theorem bytes_addM (a b : List UInt8) : (⟨a.toArray⟩ : ByteArray) ++ ⟨b.toArray⟩ = ⟨(a ++ b).toArray⟩ := by
  apply ByteArray.ext
  simp [ByteArray.data_append]
theorem bytes_sizeM (a : List UInt8) : (⟨a.toArray⟩ : ByteArray).size = a.length := by simp [ByteArray.size]
end Go.Proofs.Ytlhgdbangnohjaa
namespace Go.Proofs.Ytlhgdbangnohjaa
open Go.RowKit
set_option linter.unusedVariables false
set_option linter.unusedSimpArgs false
theorem Grow.drewNM {a b : World} (h : Grow a b) (n : Nat) : Grow a (b.drewN n) := ⟨h.os, h.tape, h.output, h.size, h.block⟩
theorem Ints.cap {w : World} {p : Option Addr} {n c : Nat} {xs : List Int} (h : Ints w (.slice p n c) xs) : n ≤ c := by
  obtain ⟨p, cap, e, hl, hc, hcap⟩ := h
  cases e
  exact hcap
theorem Ints.at {w : World} {v : Value} {xs : List Int} (h : Ints w v xs) : ∃ p cap, v = .slice p xs.length cap ∧ ∀ k, k < xs.length → ∃ (b off : Nat), p = some ⟨b, off, none⟩ ∧ w.cell? ⟨b, off + k, none⟩ = some (.int .i64 (xs.getD k 0)) := by
  obtain ⟨p, cap, rfl, hl, hc, hcap⟩ := h
  refine ⟨p, cap, rfl, fun k hk => ?_⟩
  obtain ⟨b, off, e, H⟩ := hc (by omega)
  exact ⟨b, off, e, H k hk⟩
end Go.Proofs.Ytlhgdbangnohjaa
namespace Go.Proofs.Ytlhgdbangnohjaa
open Go.RowKit
set_option linter.unusedVariables false
attribute [local go_sem ↓ high] run_imin run_imax
theorem getD_byte (s : ByteArray) (j : Nat) (h : j < s.size) : s.data.toList.getD j 0 = s[j] := by
  have hl : j < s.data.toList.length := by simpa using h
  simp only [List.getD, List.getElem?_eq_getElem hl, Option.getD_some]
  rfl
end Go.Proofs.Ytlhgdbangnohjaa
namespace Go.Proofs.Ytlhgdbangnohjaa
open Go.RowKit
set_option linter.unusedVariables false
end Go.Proofs.Ytlhgdbangnohjaa
namespace Go.Proofs.Ytlhgdbangnohjaa
open Go.RowKit
set_option linter.unusedVariables false
set_option linter.unusedSimpArgs false
theorem infoIntM : Info Try.prog 3 (.int .i64 0) 1 8 := by unfold Info; kernel_rfl
theorem push_intM (xs : List Int) (x : Int) : i64s xs ++ [.int .i64 x] = i64s (xs ++ [x]) := by simp [i64s]
theorem own_growM {w w' : World} {base : Nat} {e : TypeId} {size : Nat} {v : Value} {n : Nat} {xs : List Value} (h : w.ownsRow base e size v n xs) (hg : Grow w w') : w'.ownsRow base e size v n xs :=
  h.kept (row := none) ⟨hg.os, hg.tape, hg.output, hg.size, fun k hk _ => hg.block k hk⟩ (by cases v.ownBlock <;> simp)
theorem own_formM {w : World} {base : Nat} {e : TypeId} {size : Nat} {v : Value} {n : Nat} {xs : List Value} (h : w.ownsRow base e size v n xs) : ∃ A c, v = .slice A n c := by
  rcases h.2 with ⟨rfl, rfl⟩ | ⟨g, cap, cur, rfl, _⟩
  · exact ⟨_, _, rfl⟩
  · exact ⟨_, _, rfl⟩
theorem rest_bytesM (s : ByteArray) (i : Nat) : (s.extract i s.size).data.toList = s.data.toList.drop i := by
  have : s.data.toList.drop i = (s.data.toList.drop i).take (s.size - i) := by rw [List.take_of_length_le (by simp)]
  rw [this]
  simp [ByteArray.data_extract]
/-- What is left of the reading, the numbers so far ahead of it. -/
def fin (acc : List Int) (a : Nat) : Option (List Int × Nat) → List Int × Nat
  | none => ([], 0)
  | some (l, i) => (acc ++ l, a + i)
theorem fin_step {acc : List Int} {a m : Nat} {L : List UInt8} (hk : (unvarP (L.drop a)).2 ≠ 0) :
    fin acc a (rdN (m + 1) (L.drop a)) = fin (acc ++ [unfoldV ((unvarP (L.drop a)).1 : Int)]) (a + (unvarP (L.drop a)).2) (rdN m (L.drop (a + (unvarP (L.drop a)).2))) := by
  rw [rdN_step hk, List.drop_drop]
  cases rdN m (L.drop (a + (unvarP (L.drop a)).2)) with
  | none => rfl
  | some p => simp only [fin, Option.map_some, List.append_assoc, List.cons_append, List.nil_append]; rw [Nat.add_assoc]
theorem fin_fail {acc : List Int} {a m : Nat} {L : List UInt8} (hk : (unvarP (L.drop a)).2 = 0) : fin acc a (rdN (m + 1) (L.drop a)) = ([], 0) := by rw [rdN_fail hk]; rfl
def StatePost (R : List Int × Nat) (w : World) (e : Ending) (w' : World) : Prop := ∃ v, e = .returned (.tuple #[v, .int .i64 (R.2 : Int)]) ∧ Ints w' v R.1 ∧ Grow w w'
end Go.Proofs.Ytlhgdbangnohjaa
namespace Go.Proofs.Ytlhgdbangnohjaa
open Go.RowKit
set_option linter.unusedVariables false
/-- Of a number. -/
def numberL (x : Int) (o : OpR) : List Int × Int × Bool :=
  if o.meth = 1 then ([x], x, true)
  else if o.kind = 1 ∧ o.meth = 2 then ([o.arg], 0, true)
  else if o.kind = 1 ∧ o.meth = 3 ∧ x = o.arg then ([o.sec], 1, true)
  else if o.kind = 1 ∧ o.meth = 3 then ([x], 0, true)
  else if o.kind = 2 ∧ o.meth = 4 then ([wrap64 (x + 1)], 0, true)
  else if o.kind = 2 ∧ o.meth = 5 then ([wrap64 (x - 1)], 0, true)
  else ([], 0, false)
/-- Of a queue, or a stack. -/
def listL (xs : List Int) (o : OpR) : List Int × Int × Bool :=
  if o.kind = 3 ∧ o.meth = 6 ∨ o.kind = 4 ∧ o.meth = 8 then (xs ++ [o.arg], 0, true)
  else if o.kind = 3 ∧ o.meth = 7 then (xs.drop 1, if xs.length = 0 then -1 else xs.getD 0 0, true)
  else if o.kind = 4 ∧ o.meth = 9 then (xs.take (xs.length - 1), if xs.length = 0 then -1 else xs.getD (xs.length - 1) 0, true)
  else ([], 0, false)
/-- Of a mutex. -/
def mutexL (xs : List Int) (o : OpR) : List Int × Int × Bool :=
  if o.meth = 13 ∧ xs.length = 0 then ([o.proc], 0, true)
  else if o.meth = 14 ∧ xs.length = 1 ∧ xs.getD 0 0 = o.proc then ([], 0, true)
  else ([], 0, false)
/-- A number in its place among numbers that rise. -/
def insL (x : Int) : List Int → List Int
  | [] => [x]
  | y :: l => if x < y then x :: y :: l else y :: insL x l
/-- Of a set, whose members rise. -/
def setL (xs : List Int) (o : OpR) : List Int × Int × Bool :=
  if o.meth = 12 then (xs, if o.arg ∈ xs then 1 else 0, true)
  else if o.meth = 10 then (if o.arg ∈ xs then (xs, 0, true) else (insL o.arg xs, 1, true))
  else if o.meth = 11 then (if o.arg ∈ xs then (xs.filter (fun y => decide (y ≠ o.arg)), 1, true) else (xs, 0, true))
  else ([], 0, false)
/-- Of a state. -/
def doL (xs : List Int) (o : OpR) : List Int × Int × Bool :=
  if o.kind = 1 ∨ o.kind = 2 then (if xs.length ≠ 1 then ([], 0, false) else numberL (xs.getD 0 0) o)
  else if o.kind = 3 ∨ o.kind = 4 then listL xs o
  else if o.kind = 5 then setL xs o
  else if o.kind = 6 then mutexL xs o
  else ([], 0, false)
/-- The state behind an operation that had its answer, or has none yet. -/
def stepL (xs : List Int) (o : OpR) : List Int × Bool :=
  if (doL xs o).2.2 = false ∨ o.done = true ∧ (doL xs o).2.1 ≠ o.res then ([], false) else ((doL xs o).1, true)
end Go.Proofs.Ytlhgdbangnohjaa
namespace Go.Proofs.Ytlhgdbangnohjaa
open Go.RowKit
set_option linter.unusedVariables false
set_option linter.unusedSimpArgs false
/-- A slice that is nil, or lies in a block from this one on. -/
def Lies (B : Nat) (v : Value) : Prop := ∀ a n c, v = .slice (some a) n c → B ≤ a.block
theorem Lies.nil {B : Nat} : Lies B (.slice none 0 0) := fun a n c h => by cases h
theorem Lies.at {B g off n c : Nat} (h : B ≤ g) : Lies B (.slice (some ⟨g, off, none⟩) n c) := fun a n c e => by cases e; exact h
theorem Lies.own {w : World} {B : Nat} {e : TypeId} {k n : Nat} {v : Value} {xs : List Value} (h : w.ownsRow B e k v n xs) : Lies B v := by
  intro a m c hv
  rcases h.2 with ⟨h1, -⟩ | ⟨g, cap, cur, h1, h2, -⟩
  · rw [h1] at hv; cases hv
  · rw [h1] at hv; cases hv; exact h2
theorem Lies.mono {B C : Nat} {v : Value} (h : Lies B v) (hc : C ≤ B) : Lies C v := fun a n c e => Nat.le_trans hc (h a n c e)
/-- Numbers that lie in a block from this one on. -/
def IntsF (B : Nat) (w : World) (v : Value) (xs : List Int) : Prop := Ints w v xs ∧ Lies B v
theorem IntsF.nil {B : Nat} {w : World} : IntsF B w (.slice none 0 0) [] := ⟨Ints.nil _, Lies.nil⟩
theorem IntsF.mono {B C : Nat} {w : World} {v : Value} {xs : List Int} (h : IntsF B w v xs) (hc : C ≤ B) : IntsF C w v xs := ⟨h.1, h.2.mono hc⟩
/-- The state behind, the answer, and whether it can be done; what was ahead of the call's own blocks is as it was. -/
def DoPost (base : Nat) (r : List Int × Int × Bool) (w : World) (e : Ending) (w' : World) : Prop := ∃ v, e = .returned (.tuple #[v, .int .i64 r.2.1, .bool r.2.2]) ∧ IntsF base w' v r.1 ∧ Below base w w'
set_option maxRecDepth 100000 in
set_option maxHeartbeats 2000000 in
theorem Clone_c (xs : List Int) (v : Value) (w : World) (hv : Ints w v xs) : Calls Try.prog 52 #[v] w fun e w' => ∃ v', e = .returned v' ∧ w'.ownsRow w.heap.size 3 1 v' xs.length (i64s xs) ∧ Grow w w' := by
  have hl := hv.length
  have hq : ∀ (w : World) (a : Option Addr) (n c n' c' : Nat), (binOp .eql 23 (.slice a n c) (.slice none n' c')).run Try.prog w = .ok (.bool a.isNone) w := fun w a n c n' c' => Lib.run_eql_slice_nil w _ _ a n c n' c' Try.underlying23
  obtain ⟨p, cap, rfl, hc⟩ := hv.at
  obtain ⟨i0, hi, hz0, hz1, hz2⟩ := info_parts infoIntM
  cases p with
  | none =>
    have h0 : xs = [] := by
      cases xs with
      | nil => rfl
      | cons a l =>
        obtain ⟨b, off, e, _⟩ := hc 0 (by simp)
        cases e
    subst h0
    clear hc hv
    go_enter Try.func52, Try.ntmps52
    go_wp2_with fail
    go_ret
    exact ⟨_, rfl, World.ownsRow_nil _ _ _ _, Grow.refl _⟩
  | some a =>
    have HC := hid hc
    clear hc hv
    go_enter Try.func52, Try.ntmps52
    go_wp2_with (at_builtin; refine wpList_append_own_wide _ rfl _ _ 23 rfl w.heap.size 3 i0 (.int .i64 0) 1 8 Try.underlying23 hi hz0 hz1 hz2 rfl (by decide) _ _ _ rfl (World.ownsRow_made w #[] 0 (Nat.le_refl _) (Nat.zero_le _) rfl) a xs.length cap (i64s xs) rfl ?qc1 ?qc2 ?qc3 ?qc4 ?qc5 ?qc6 ?_)
    case qc1 => rw [i64s_length]; omega
    case qc2 =>
      intro j u hj
      have hjn : j < xs.length := by
        have := (List.getElem?_eq_some_iff.1 hj).1
        rwa [i64s_length] at this
      obtain ⟨b, off, e, hcell⟩ := HC.out j hjn
      obtain rfl : a = ⟨b, off, none⟩ := by simpa using e
      rw [Addr.add_lit]
      refine Lib.cell?_alloc_some _ ?_
      rw [hcell]
      unfold i64s at hj
      rw [List.getElem?_map, List.getElem?_eq_getElem hjn] at hj
      simpa [List.getD, List.getElem?_eq_getElem hjn] using hj
    case qc3 => intro u hu; obtain ⟨x, _, rfl⟩ := List.mem_map.1 hu; rfl
    case qc4 => unfold maxLen; omega
    case qc5 => omega
    case qc6 => simp
    intro v' w1 hown hgrow hnil
    go_wp2_with fail
    go_ret
    exact ⟨v', rfl, by simpa using hown, ((Below.refl _ w).alloc (Nat.le_refl _) _).grown hgrow (by simp) (by intro k hk; simp [Value.ownBlock] at hk; omega)⟩
end Go.Proofs.Ytlhgdbangnohjaa
