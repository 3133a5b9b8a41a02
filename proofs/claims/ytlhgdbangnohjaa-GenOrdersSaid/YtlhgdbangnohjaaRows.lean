/-
  No cell of these rows narrows 'for every input' (looked for: loops, veiled, ifaces, maps, wideKeys, modest, calm, conditions, laid).
  DERIVED. THE GIVEN ROWS OF THIS SEAT. 6 by the template 'for every input the law returns true; each argument reads behind the call as it read before'; 0 by the template 'total and deterministic' (their statements: YtlhgdbangnohjaaTotals.lean).
  GIVEN WITH THE SEED: the statements are not yours to turn. If you find one false, say at which input.
  Laid BY PROGRAM, IN A SANDBOX (cutbox-rows.mjs): the forced cells as the released guide's own fill.sh prints them over the translation 66d6eb51dbbd9ee4… (all of the seat's roots in one cut). By AI agents, Wed Nov 11 2026. No macro, syntax, notation, axiom, sorry.
-/
import Derived.Test.YtlhgdbangnohjaaChecked
import GoSem.Claim
import GoSem.ClaimJoined
import GoSem.ClaimMapViews
import Derived.JoinedTies
import Derived.KernelRfl
namespace Go.Proofs.Ytlhgdbangnohjaa
/- THE CELL 'sum', in the pinned program and in every row, IS THE sha256 OF THE DUMP (.gsa) THAT YtlhgdbangnohjaaProg.lean LOADS. Nothing in Lean hashes anything: it is a label: what it is worth is what the hold of that sum in a sandbox is worth. -/
noncomputable def Try.pinned : Pinned := { name := "ytlhgdbangnohjaa", sum := "66d6eb51dbbd9ee4875238cfabc8d8a11e7dcb3633edbae785b0d064f7af76e3", checked := Try.checked }
namespace Rows
def none {H : Type} : Left H := { results := [], args := [] }

/-- 'annalistlaw35.GenNumbers': WHATEVER THE INPUT: true; the input reads as it did. -/
def genNumbersSpec : ChangeSpec := { name := "genNumbers", fn := fun _ => fun
  | [d1, d2] => { results := [.lit (.bool true)], args := [d1, d2] }
  | _ => none }
def genNumbersRow : OpenClaim := { program := "ytlhgdbangnohjaa", sum := "66d6eb51dbbd9ee4875238cfabc8d8a11e7dcb3633edbae785b0d064f7af76e3", func := "annalist/annalistlaw35.GenNumbers", spec := "genNumbers", apart := false }
def GenNumbersSaid : Prop := genNumbersRow.holds Try.pinned (OpenSpec.ofChange genNumbersSpec)

/-- ITS FALSE NEIGHBOUR: 'it returns false'. Refute it at one input. -/
def genNumbersWrong : ChangeSpec := { name := "genNumbers", fn := fun _ => fun
  | [d1, d2] => { results := [.lit (.bool false)], args := [d1, d2] }
  | _ => none }
def GenNumbersWrongFalsely : Prop := genNumbersRow.holds Try.pinned (OpenSpec.ofChange genNumbersWrong)

/-- 'annalistlaw35.GenHistories': WHATEVER THE INPUT: true; the input reads as it did. -/
def genHistoriesSpec : ChangeSpec := { name := "genHistories", fn := fun _ => fun
  | [d] => { results := [.lit (.bool true)], args := [d] }
  | _ => none }
def genHistoriesRow : OpenClaim := { program := "ytlhgdbangnohjaa", sum := "66d6eb51dbbd9ee4875238cfabc8d8a11e7dcb3633edbae785b0d064f7af76e3", func := "annalist/annalistlaw35.GenHistories", spec := "genHistories", inPlace := ["slices.overlaps[int]"], unfollowed := true, recurses := true, apart := false }
def GenHistoriesSaid : Prop := genHistoriesRow.holds Try.pinned (OpenSpec.ofChange genHistoriesSpec)

/-- ITS FALSE NEIGHBOUR: 'it returns false'. Refute it at one input. -/
def genHistoriesWrong : ChangeSpec := { name := "genHistories", fn := fun _ => fun
  | [d] => { results := [.lit (.bool false)], args := [d] }
  | _ => none }
def GenHistoriesWrongFalsely : Prop := genHistoriesRow.holds Try.pinned (OpenSpec.ofChange genHistoriesWrong)

/-- 'annalistlaw35.GenSound': WHATEVER THE INPUT: true; the input reads as it did. -/
def genSoundSpec : ChangeSpec := { name := "genSound", fn := fun _ => fun
  | [d] => { results := [.lit (.bool true)], args := [d] }
  | _ => none }
def genSoundRow : OpenClaim := { program := "ytlhgdbangnohjaa", sum := "66d6eb51dbbd9ee4875238cfabc8d8a11e7dcb3633edbae785b0d064f7af76e3", func := "annalist/annalistlaw35.GenSound", spec := "genSound", inPlace := ["slices.overlaps[int]"], unfollowed := true, recurses := true, apart := false }
def GenSoundSaid : Prop := genSoundRow.holds Try.pinned (OpenSpec.ofChange genSoundSpec)

/-- ITS FALSE NEIGHBOUR: 'it returns false'. Refute it at one input. -/
def genSoundWrong : ChangeSpec := { name := "genSound", fn := fun _ => fun
  | [d] => { results := [.lit (.bool false)], args := [d] }
  | _ => none }
def GenSoundWrongFalsely : Prop := genSoundRow.holds Try.pinned (OpenSpec.ofChange genSoundWrong)

/-- 'annalistlaw35.GenOrders': WHATEVER THE INPUT: true; the input reads as it did. -/
def genOrdersSpec : ChangeSpec := { name := "genOrders", fn := fun _ => fun
  | [d] => { results := [.lit (.bool true)], args := [d] }
  | _ => none }
def genOrdersRow : OpenClaim := { program := "ytlhgdbangnohjaa", sum := "66d6eb51dbbd9ee4875238cfabc8d8a11e7dcb3633edbae785b0d064f7af76e3", func := "annalist/annalistlaw35.GenOrders", spec := "genOrders", inPlace := ["slices.overlaps[int]"], unfollowed := true, recurses := true, apart := false }
def GenOrdersSaid : Prop := genOrdersRow.holds Try.pinned (OpenSpec.ofChange genOrdersSpec)

/-- ITS FALSE NEIGHBOUR: 'it returns false'. Refute it at one input. -/
def genOrdersWrong : ChangeSpec := { name := "genOrders", fn := fun _ => fun
  | [d] => { results := [.lit (.bool false)], args := [d] }
  | _ => none }
def GenOrdersWrongFalsely : Prop := genOrdersRow.holds Try.pinned (OpenSpec.ofChange genOrdersWrong)

/-- 'annalistlaw35.GenPending': WHATEVER THE INPUT: true; the input reads as it did. -/
def genPendingSpec : ChangeSpec := { name := "genPending", fn := fun _ => fun
  | [d] => { results := [.lit (.bool true)], args := [d] }
  | _ => none }
def genPendingRow : OpenClaim := { program := "ytlhgdbangnohjaa", sum := "66d6eb51dbbd9ee4875238cfabc8d8a11e7dcb3633edbae785b0d064f7af76e3", func := "annalist/annalistlaw35.GenPending", spec := "genPending", inPlace := ["slices.overlaps[int]"], unfollowed := true, recurses := true, apart := false }
def GenPendingSaid : Prop := genPendingRow.holds Try.pinned (OpenSpec.ofChange genPendingSpec)

/-- ITS FALSE NEIGHBOUR: 'it returns false'. Refute it at one input. -/
def genPendingWrong : ChangeSpec := { name := "genPending", fn := fun _ => fun
  | [d] => { results := [.lit (.bool false)], args := [d] }
  | _ => none }
def GenPendingWrongFalsely : Prop := genPendingRow.holds Try.pinned (OpenSpec.ofChange genPendingWrong)

/-- 'annalistlaw35.GenLonger': WHATEVER THE INPUT: true; the input reads as it did. -/
def genLongerSpec : ChangeSpec := { name := "genLonger", fn := fun _ => fun
  | [d1, d2] => { results := [.lit (.bool true)], args := [d1, d2] }
  | _ => none }
def genLongerRow : OpenClaim := { program := "ytlhgdbangnohjaa", sum := "66d6eb51dbbd9ee4875238cfabc8d8a11e7dcb3633edbae785b0d064f7af76e3", func := "annalist/annalistlaw35.GenLonger", spec := "genLonger", inPlace := ["slices.overlaps[int]"], unfollowed := true, recurses := true, apart := false }
def GenLongerSaid : Prop := genLongerRow.holds Try.pinned (OpenSpec.ofChange genLongerSpec)

/-- ITS FALSE NEIGHBOUR: 'it returns false'. Refute it at one input. -/
def genLongerWrong : ChangeSpec := { name := "genLonger", fn := fun _ => fun
  | [d1, d2] => { results := [.lit (.bool false)], args := [d1, d2] }
  | _ => none }
def GenLongerWrongFalsely : Prop := genLongerRow.holds Try.pinned (OpenSpec.ofChange genLongerWrong)

/- THE SECOND FORM. 'bulk': how many values and letters a reading holds, each counted each time it is reached (what is shared counts as often as it is met; a slice's spare places count too). A statement '..UptoSaid' is the law's where the arguments, and the package variables that the reading takes, are together of bulk at most 1048576: NARROWER than '..Said'. Prove '..Said' where nothing that the law and all that it calls make is longer than what came in: it says more and counts as full. Else prove '..UptoSaid'. A law counts once. -/
mutual
def uptoBulk {H : Type} : DataW H → Nat
  | .lit (.string bytes) => bytes.length + 1
  | .lit _ => 1
  | .nil => 1
  | .ptr d => uptoBulk d + 1
  | .slice elems spare => uptoBulkAll elems + uptoBulkAll spare + 1
  | .agg parts => uptoBulkAll parts + 1
  | .iface _ d => uptoBulk d + 1
  | .map entries => uptoBulkEntries entries + 1
  | .held _ => 1
def uptoBulkAll {H : Type} : List (DataW H) → Nat
  | [] => 0
  | d :: r => uptoBulk d + uptoBulkAll r
def uptoBulkEntries {H : Type} : List (Lit × DataW H) → Nat
  | [] => 0
  | x :: r => uptoBulkEntry x + uptoBulkEntries r
def uptoBulkEntry {H : Type} : Lit × DataW H → Nat
  | (.string bytes, d) => bytes.length + uptoBulk d + 1
  | (_, d) => uptoBulk d + 1
 end
def uptoSmall : (H : Type) → List (DataW H) → Bool := fun _ ds => decide (uptoBulkAll ds ≤ 1048576)
def OpenSpec.upto (s : _root_.Go.ChangeSpec) : _root_.Go.OpenSpec := { _root_.Go.OpenSpec.ofChange s with cond := some uptoSmall }

/-- 'annalistlaw35.GenNumbers', WHERE WHAT IT READS IS OF BULK AT MOST 1048576: true; the input reads as it did. -/
def genNumbersUptoRow : OpenClaim := { program := "ytlhgdbangnohjaa", sum := "66d6eb51dbbd9ee4875238cfabc8d8a11e7dcb3633edbae785b0d064f7af76e3", func := "annalist/annalistlaw35.GenNumbers", spec := "genNumbers", apart := false, narrowed := true }
def GenNumbersUptoSaid : Prop := genNumbersUptoRow.holds Try.pinned (OpenSpec.upto genNumbersSpec)

/-- 'annalistlaw35.GenHistories', WHERE WHAT IT READS IS OF BULK AT MOST 1048576: true; the input reads as it did. -/
def genHistoriesUptoRow : OpenClaim := { program := "ytlhgdbangnohjaa", sum := "66d6eb51dbbd9ee4875238cfabc8d8a11e7dcb3633edbae785b0d064f7af76e3", func := "annalist/annalistlaw35.GenHistories", spec := "genHistories", inPlace := ["slices.overlaps[int]"], unfollowed := true, recurses := true, apart := false, narrowed := true }
def GenHistoriesUptoSaid : Prop := genHistoriesUptoRow.holds Try.pinned (OpenSpec.upto genHistoriesSpec)

/-- 'annalistlaw35.GenSound', WHERE WHAT IT READS IS OF BULK AT MOST 1048576: true; the input reads as it did. -/
def genSoundUptoRow : OpenClaim := { program := "ytlhgdbangnohjaa", sum := "66d6eb51dbbd9ee4875238cfabc8d8a11e7dcb3633edbae785b0d064f7af76e3", func := "annalist/annalistlaw35.GenSound", spec := "genSound", inPlace := ["slices.overlaps[int]"], unfollowed := true, recurses := true, apart := false, narrowed := true }
def GenSoundUptoSaid : Prop := genSoundUptoRow.holds Try.pinned (OpenSpec.upto genSoundSpec)

/-- 'annalistlaw35.GenOrders', WHERE WHAT IT READS IS OF BULK AT MOST 1048576: true; the input reads as it did. -/
def genOrdersUptoRow : OpenClaim := { program := "ytlhgdbangnohjaa", sum := "66d6eb51dbbd9ee4875238cfabc8d8a11e7dcb3633edbae785b0d064f7af76e3", func := "annalist/annalistlaw35.GenOrders", spec := "genOrders", inPlace := ["slices.overlaps[int]"], unfollowed := true, recurses := true, apart := false, narrowed := true }
def GenOrdersUptoSaid : Prop := genOrdersUptoRow.holds Try.pinned (OpenSpec.upto genOrdersSpec)

/-- 'annalistlaw35.GenPending', WHERE WHAT IT READS IS OF BULK AT MOST 1048576: true; the input reads as it did. -/
def genPendingUptoRow : OpenClaim := { program := "ytlhgdbangnohjaa", sum := "66d6eb51dbbd9ee4875238cfabc8d8a11e7dcb3633edbae785b0d064f7af76e3", func := "annalist/annalistlaw35.GenPending", spec := "genPending", inPlace := ["slices.overlaps[int]"], unfollowed := true, recurses := true, apart := false, narrowed := true }
def GenPendingUptoSaid : Prop := genPendingUptoRow.holds Try.pinned (OpenSpec.upto genPendingSpec)

/-- 'annalistlaw35.GenLonger', WHERE WHAT IT READS IS OF BULK AT MOST 1048576: true; the input reads as it did. -/
def genLongerUptoRow : OpenClaim := { program := "ytlhgdbangnohjaa", sum := "66d6eb51dbbd9ee4875238cfabc8d8a11e7dcb3633edbae785b0d064f7af76e3", func := "annalist/annalistlaw35.GenLonger", spec := "genLonger", inPlace := ["slices.overlaps[int]"], unfollowed := true, recurses := true, apart := false, narrowed := true }
def GenLongerUptoSaid : Prop := genLongerUptoRow.holds Try.pinned (OpenSpec.upto genLongerSpec)

end Rows
end Go.Proofs.Ytlhgdbangnohjaa
