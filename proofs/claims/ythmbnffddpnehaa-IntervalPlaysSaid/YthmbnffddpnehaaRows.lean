/-
  No cell of these rows narrows 'for every input' (looked for: loops, veiled, ifaces, maps, wideKeys, modest, calm, conditions, laid).
  DERIVED. THE GIVEN ROWS OF THIS SEAT. 6 by the template 'for every input the law returns true; each argument reads behind the call as it read before'; 0 by the template 'total and deterministic' (their statements: YthmbnffddpnehaaTotals.lean).
  GIVEN WITH THE SEED: the statements are not yours to turn. If you find one false, say at which input.
  Laid BY PROGRAM, IN A SANDBOX (cutbox-rows.mjs): the forced cells as the released guide's own fill.sh prints them over the translation f10226f651d4abd3… (all of the seat's roots in one cut). By AI agents, Wed Nov 11 2026. No macro, syntax, notation, axiom, sorry.
-/
import Derived.Test.YthmbnffddpnehaaChecked
import GoSem.Claim
import GoSem.ClaimJoined
import GoSem.ClaimMapViews
import Derived.JoinedTies
import Derived.KernelRfl
namespace Go.Proofs.Ythmbnffddpnehaa
/- THE CELL 'sum', in the pinned program and in every row, IS THE sha256 OF THE DUMP (.gsa) THAT YthmbnffddpnehaaProg.lean LOADS. Nothing in Lean hashes anything: it is a label: what it is worth is what the hold of that sum in a sandbox is worth. -/
noncomputable def Try.pinned : Pinned := { name := "ythmbnffddpnehaa", sum := "f10226f651d4abd32ab25abb52c0cf81f69a2f92d9d875175582092afcf19b55", checked := Try.checked }
namespace Rows
def none {H : Type} : Left H := { results := [], args := [] }

/-- 'annalistlaw27.IntervalGaps': WHATEVER THE INPUT: true; the input reads as it did. -/
def intervalGapsSpec : ChangeSpec := { name := "intervalGaps", fn := fun _ => fun
  | [d1, d2, d3, d4] => { results := [.lit (.bool true)], args := [d1, d2, d3, d4] }
  | _ => none }
def intervalGapsRow : OpenClaim := { program := "ythmbnffddpnehaa", sum := "f10226f651d4abd32ab25abb52c0cf81f69a2f92d9d875175582092afcf19b55", func := "annalist/annalistlaw27.IntervalGaps", spec := "intervalGaps", unfollowed := true, recurses := true, apart := false }
def IntervalGapsSaid : Prop := intervalGapsRow.holds Try.pinned (OpenSpec.ofChange intervalGapsSpec)

/-- ITS FALSE NEIGHBOUR: 'it returns false'. Refute it at one input. -/
def intervalGapsWrong : ChangeSpec := { name := "intervalGaps", fn := fun _ => fun
  | [d1, d2, d3, d4] => { results := [.lit (.bool false)], args := [d1, d2, d3, d4] }
  | _ => none }
def IntervalGapsWrongFalsely : Prop := intervalGapsRow.holds Try.pinned (OpenSpec.ofChange intervalGapsWrong)

/-- 'annalistlaw27.IntervalWide': WHATEVER THE INPUT: true; the input reads as it did. -/
def intervalWideSpec : ChangeSpec := { name := "intervalWide", fn := fun _ => fun
  | [d1, d2] => { results := [.lit (.bool true)], args := [d1, d2] }
  | _ => none }
def intervalWideRow : OpenClaim := { program := "ythmbnffddpnehaa", sum := "f10226f651d4abd32ab25abb52c0cf81f69a2f92d9d875175582092afcf19b55", func := "annalist/annalistlaw27.IntervalWide", spec := "intervalWide", unfollowed := true, recurses := true, apart := false }
def IntervalWideSaid : Prop := intervalWideRow.holds Try.pinned (OpenSpec.ofChange intervalWideSpec)

/-- ITS FALSE NEIGHBOUR: 'it returns false'. Refute it at one input. -/
def intervalWideWrong : ChangeSpec := { name := "intervalWide", fn := fun _ => fun
  | [d1, d2] => { results := [.lit (.bool false)], args := [d1, d2] }
  | _ => none }
def IntervalWideWrongFalsely : Prop := intervalWideRow.holds Try.pinned (OpenSpec.ofChange intervalWideWrong)

/-- 'annalistlaw27.IntervalMeets': WHATEVER THE INPUT: true; the input reads as it did. -/
def intervalMeetsSpec : ChangeSpec := { name := "intervalMeets", fn := fun _ => fun
  | [d1, d2, d3, d4] => { results := [.lit (.bool true)], args := [d1, d2, d3, d4] }
  | _ => none }
def intervalMeetsRow : OpenClaim := { program := "ythmbnffddpnehaa", sum := "f10226f651d4abd32ab25abb52c0cf81f69a2f92d9d875175582092afcf19b55", func := "annalist/annalistlaw27.IntervalMeets", spec := "intervalMeets", unfollowed := true, recurses := true, apart := false }
def IntervalMeetsSaid : Prop := intervalMeetsRow.holds Try.pinned (OpenSpec.ofChange intervalMeetsSpec)

/-- ITS FALSE NEIGHBOUR: 'it returns false'. Refute it at one input. -/
def intervalMeetsWrong : ChangeSpec := { name := "intervalMeets", fn := fun _ => fun
  | [d1, d2, d3, d4] => { results := [.lit (.bool false)], args := [d1, d2, d3, d4] }
  | _ => none }
def IntervalMeetsWrongFalsely : Prop := intervalMeetsRow.holds Try.pinned (OpenSpec.ofChange intervalMeetsWrong)

/-- 'annalistlaw27.IntervalRemoves': WHATEVER THE INPUT: true; the input reads as it did. -/
def intervalRemovesSpec : ChangeSpec := { name := "intervalRemoves", fn := fun _ => fun
  | [d1, d2] => { results := [.lit (.bool true)], args := [d1, d2] }
  | _ => none }
def intervalRemovesRow : OpenClaim := { program := "ythmbnffddpnehaa", sum := "f10226f651d4abd32ab25abb52c0cf81f69a2f92d9d875175582092afcf19b55", func := "annalist/annalistlaw27.IntervalRemoves", spec := "intervalRemoves", unfollowed := true, recurses := true, apart := false }
def IntervalRemovesSaid : Prop := intervalRemovesRow.holds Try.pinned (OpenSpec.ofChange intervalRemovesSpec)

/-- ITS FALSE NEIGHBOUR: 'it returns false'. Refute it at one input. -/
def intervalRemovesWrong : ChangeSpec := { name := "intervalRemoves", fn := fun _ => fun
  | [d1, d2] => { results := [.lit (.bool false)], args := [d1, d2] }
  | _ => none }
def IntervalRemovesWrongFalsely : Prop := intervalRemovesRow.holds Try.pinned (OpenSpec.ofChange intervalRemovesWrong)

/-- 'annalistlaw27.IntervalPlays': WHATEVER THE INPUT: true; the input reads as it did. -/
def intervalPlaysSpec : ChangeSpec := { name := "intervalPlays", fn := fun _ => fun
  | [d1, d2, d3] => { results := [.lit (.bool true)], args := [d1, d2, d3] }
  | _ => none }
def intervalPlaysRow : OpenClaim := { program := "ythmbnffddpnehaa", sum := "f10226f651d4abd32ab25abb52c0cf81f69a2f92d9d875175582092afcf19b55", func := "annalist/annalistlaw27.IntervalPlays", spec := "intervalPlays", unfollowed := true, recurses := true, apart := false }
def IntervalPlaysSaid : Prop := intervalPlaysRow.holds Try.pinned (OpenSpec.ofChange intervalPlaysSpec)

/-- ITS FALSE NEIGHBOUR: 'it returns false'. Refute it at one input. -/
def intervalPlaysWrong : ChangeSpec := { name := "intervalPlays", fn := fun _ => fun
  | [d1, d2, d3] => { results := [.lit (.bool false)], args := [d1, d2, d3] }
  | _ => none }
def IntervalPlaysWrongFalsely : Prop := intervalPlaysRow.holds Try.pinned (OpenSpec.ofChange intervalPlaysWrong)

/-- 'annalistlaw27.IntervalNobody': WHATEVER THE INPUT: true; the input reads as it did. -/
def intervalNobodySpec : ChangeSpec := { name := "intervalNobody", fn := fun _ => fun
  | [d] => { results := [.lit (.bool true)], args := [d] }
  | _ => none }
def intervalNobodyRow : OpenClaim := { program := "ythmbnffddpnehaa", sum := "f10226f651d4abd32ab25abb52c0cf81f69a2f92d9d875175582092afcf19b55", func := "annalist/annalistlaw27.IntervalNobody", spec := "intervalNobody", unfollowed := true, recurses := true, apart := false }
def IntervalNobodySaid : Prop := intervalNobodyRow.holds Try.pinned (OpenSpec.ofChange intervalNobodySpec)

/-- ITS FALSE NEIGHBOUR: 'it returns false'. Refute it at one input. -/
def intervalNobodyWrong : ChangeSpec := { name := "intervalNobody", fn := fun _ => fun
  | [d] => { results := [.lit (.bool false)], args := [d] }
  | _ => none }
def IntervalNobodyWrongFalsely : Prop := intervalNobodyRow.holds Try.pinned (OpenSpec.ofChange intervalNobodyWrong)

/- THE SECOND FORM. 'bulk': how many values and letters a reading holds, each counted each time it is reached (what is shared counts as often as it is met; a slice's spare places count too). A statement '..UptoSaid' is the law's where the arguments, and the package variables that the reading takes, are together of bulk at most 1048576: NARROWER than '..Said'. Prove '..Said' where nothing that the law and all that it calls make is longer than what came in: it says more and counts as full. Else prove '..UptoSaid'. A law counts once. -/
mutual
def uptoBulk {H : Type} : DataW H → Nat
  | .lit (.string bytes) => bytes.length + 1
  | .lit _ => 1
  | .nil => 1
  | .ptr d => uptoBulk d + 1
  | .slice elems spare => uptoBulkAll elems + uptoBulkAll spare + 1
  | .agg parts => uptoBulkAll parts + 1
  | .iface _ d => uptoBulk d + 1
  | .map entries => uptoBulkEntries entries + 1
  | .held _ => 1
def uptoBulkAll {H : Type} : List (DataW H) → Nat
  | [] => 0
  | d :: r => uptoBulk d + uptoBulkAll r
def uptoBulkEntries {H : Type} : List (Lit × DataW H) → Nat
  | [] => 0
  | x :: r => uptoBulkEntry x + uptoBulkEntries r
def uptoBulkEntry {H : Type} : Lit × DataW H → Nat
  | (.string bytes, d) => bytes.length + uptoBulk d + 1
  | (_, d) => uptoBulk d + 1
 end
def uptoSmall : (H : Type) → List (DataW H) → Bool := fun _ ds => decide (uptoBulkAll ds ≤ 1048576)
def OpenSpec.upto (s : _root_.Go.ChangeSpec) : _root_.Go.OpenSpec := { _root_.Go.OpenSpec.ofChange s with cond := some uptoSmall }

/-- 'annalistlaw27.IntervalGaps', WHERE WHAT IT READS IS OF BULK AT MOST 1048576: true; the input reads as it did. -/
def intervalGapsUptoRow : OpenClaim := { program := "ythmbnffddpnehaa", sum := "f10226f651d4abd32ab25abb52c0cf81f69a2f92d9d875175582092afcf19b55", func := "annalist/annalistlaw27.IntervalGaps", spec := "intervalGaps", unfollowed := true, recurses := true, apart := false, narrowed := true }
def IntervalGapsUptoSaid : Prop := intervalGapsUptoRow.holds Try.pinned (OpenSpec.upto intervalGapsSpec)

/-- 'annalistlaw27.IntervalWide', WHERE WHAT IT READS IS OF BULK AT MOST 1048576: true; the input reads as it did. -/
def intervalWideUptoRow : OpenClaim := { program := "ythmbnffddpnehaa", sum := "f10226f651d4abd32ab25abb52c0cf81f69a2f92d9d875175582092afcf19b55", func := "annalist/annalistlaw27.IntervalWide", spec := "intervalWide", unfollowed := true, recurses := true, apart := false, narrowed := true }
def IntervalWideUptoSaid : Prop := intervalWideUptoRow.holds Try.pinned (OpenSpec.upto intervalWideSpec)

/-- 'annalistlaw27.IntervalMeets', WHERE WHAT IT READS IS OF BULK AT MOST 1048576: true; the input reads as it did. -/
def intervalMeetsUptoRow : OpenClaim := { program := "ythmbnffddpnehaa", sum := "f10226f651d4abd32ab25abb52c0cf81f69a2f92d9d875175582092afcf19b55", func := "annalist/annalistlaw27.IntervalMeets", spec := "intervalMeets", unfollowed := true, recurses := true, apart := false, narrowed := true }
def IntervalMeetsUptoSaid : Prop := intervalMeetsUptoRow.holds Try.pinned (OpenSpec.upto intervalMeetsSpec)

/-- 'annalistlaw27.IntervalRemoves', WHERE WHAT IT READS IS OF BULK AT MOST 1048576: true; the input reads as it did. -/
def intervalRemovesUptoRow : OpenClaim := { program := "ythmbnffddpnehaa", sum := "f10226f651d4abd32ab25abb52c0cf81f69a2f92d9d875175582092afcf19b55", func := "annalist/annalistlaw27.IntervalRemoves", spec := "intervalRemoves", unfollowed := true, recurses := true, apart := false, narrowed := true }
def IntervalRemovesUptoSaid : Prop := intervalRemovesUptoRow.holds Try.pinned (OpenSpec.upto intervalRemovesSpec)

/-- 'annalistlaw27.IntervalPlays', WHERE WHAT IT READS IS OF BULK AT MOST 1048576: true; the input reads as it did. -/
def intervalPlaysUptoRow : OpenClaim := { program := "ythmbnffddpnehaa", sum := "f10226f651d4abd32ab25abb52c0cf81f69a2f92d9d875175582092afcf19b55", func := "annalist/annalistlaw27.IntervalPlays", spec := "intervalPlays", unfollowed := true, recurses := true, apart := false, narrowed := true }
def IntervalPlaysUptoSaid : Prop := intervalPlaysUptoRow.holds Try.pinned (OpenSpec.upto intervalPlaysSpec)

/-- 'annalistlaw27.IntervalNobody', WHERE WHAT IT READS IS OF BULK AT MOST 1048576: true; the input reads as it did. -/
def intervalNobodyUptoRow : OpenClaim := { program := "ythmbnffddpnehaa", sum := "f10226f651d4abd32ab25abb52c0cf81f69a2f92d9d875175582092afcf19b55", func := "annalist/annalistlaw27.IntervalNobody", spec := "intervalNobody", unfollowed := true, recurses := true, apart := false, narrowed := true }
def IntervalNobodyUptoSaid : Prop := intervalNobodyUptoRow.holds Try.pinned (OpenSpec.upto intervalNobodySpec)

end Rows
end Go.Proofs.Ythmbnffddpnehaa
