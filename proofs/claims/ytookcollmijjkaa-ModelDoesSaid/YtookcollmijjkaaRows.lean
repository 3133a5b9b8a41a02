/-
  No cell of these rows narrows 'for every input' (looked for: loops, veiled, ifaces, maps, wideKeys, modest, calm, conditions, laid).
  DERIVED. THE GIVEN ROWS OF THIS SEAT. 6 by the template 'for every input the law returns true; each argument reads behind the call as it read before'; 0 by the template 'total and deterministic' (their statements: YtookcollmijjkaaTotals.lean).
  GIVEN WITH THE SEED: the statements are not yours to turn. If you find one false, say at which input.
  Laid BY PROGRAM, IN A SANDBOX (cutbox-rows.mjs): the forced cells as the released guide's own fill.sh prints them over the translation 769fb984a5943e46… (all of the seat's roots in one cut). By AI agents, Wed Nov 11 2026. No macro, syntax, notation, axiom, sorry.
-/
import Derived.Test.YtookcollmijjkaaChecked
import GoSem.Claim
import GoSem.ClaimJoined
import GoSem.ClaimMapViews
import Derived.JoinedTies
import Derived.KernelRfl
namespace Go.Proofs.Ytookcollmijjkaa
/- THE CELL 'sum', in the pinned program and in every row, IS THE sha256 OF THE DUMP (.gsa) THAT YtookcollmijjkaaProg.lean LOADS. Nothing in Lean hashes anything: it is a label: what it is worth is what the hold of that sum in a sandbox is worth. -/
noncomputable def Try.pinned : Pinned := { name := "ytookcollmijjkaa", sum := "769fb984a5943e4600b8485343460c8daa84ff28125f5aa7c0d409213d653f75", checked := Try.checked }
namespace Rows
def none {H : Type} : Left H := { results := [], args := [] }

/-- 'annalistlaw11.ModelLines': WHATEVER THE INPUT: true; the input reads as it did. -/
def modelLinesSpec : ChangeSpec := { name := "modelLines", fn := fun _ => fun
  | [d] => { results := [.lit (.bool true)], args := [d] }
  | _ => none }
def modelLinesRow : OpenClaim := { program := "ytookcollmijjkaa", sum := "769fb984a5943e4600b8485343460c8daa84ff28125f5aa7c0d409213d653f75", func := "annalist/annalistlaw11.ModelLines", spec := "modelLines", inPlace := ["slices.overlaps[int]"], apart := false }
def ModelLinesSaid : Prop := modelLinesRow.holds Try.pinned (OpenSpec.ofChange modelLinesSpec)

/-- ITS FALSE NEIGHBOUR: 'it returns false'. Refute it at one input. -/
def modelLinesWrong : ChangeSpec := { name := "modelLines", fn := fun _ => fun
  | [d] => { results := [.lit (.bool false)], args := [d] }
  | _ => none }
def ModelLinesWrongFalsely : Prop := modelLinesRow.holds Try.pinned (OpenSpec.ofChange modelLinesWrong)

/-- 'annalistlaw11.ModelDoes': WHATEVER THE INPUT: true; the input reads as it did. -/
def modelDoesSpec : ChangeSpec := { name := "modelDoes", fn := fun _ => fun
  | [d1, d2] => { results := [.lit (.bool true)], args := [d1, d2] }
  | _ => none }
def modelDoesRow : OpenClaim := { program := "ytookcollmijjkaa", sum := "769fb984a5943e4600b8485343460c8daa84ff28125f5aa7c0d409213d653f75", func := "annalist/annalistlaw11.ModelDoes", spec := "modelDoes", inPlace := ["slices.overlaps[int]"], apart := false }
def ModelDoesSaid : Prop := modelDoesRow.holds Try.pinned (OpenSpec.ofChange modelDoesSpec)

/-- ITS FALSE NEIGHBOUR: 'it returns false'. Refute it at one input. -/
def modelDoesWrong : ChangeSpec := { name := "modelDoes", fn := fun _ => fun
  | [d1, d2] => { results := [.lit (.bool false)], args := [d1, d2] }
  | _ => none }
def ModelDoesWrongFalsely : Prop := modelDoesRow.holds Try.pinned (OpenSpec.ofChange modelDoesWrong)

/-- 'annalistlaw11.ModelRuns': WHATEVER THE INPUT: true; the input reads as it did. -/
def modelRunsSpec : ChangeSpec := { name := "modelRuns", fn := fun _ => fun
  | [d1, d2] => { results := [.lit (.bool true)], args := [d1, d2] }
  | _ => none }
def modelRunsRow : OpenClaim := { program := "ytookcollmijjkaa", sum := "769fb984a5943e4600b8485343460c8daa84ff28125f5aa7c0d409213d653f75", func := "annalist/annalistlaw11.ModelRuns", spec := "modelRuns", inPlace := ["slices.overlaps[int]"], apart := false }
def ModelRunsSaid : Prop := modelRunsRow.holds Try.pinned (OpenSpec.ofChange modelRunsSpec)

/-- ITS FALSE NEIGHBOUR: 'it returns false'. Refute it at one input. -/
def modelRunsWrong : ChangeSpec := { name := "modelRuns", fn := fun _ => fun
  | [d1, d2] => { results := [.lit (.bool false)], args := [d1, d2] }
  | _ => none }
def ModelRunsWrongFalsely : Prop := modelRunsRow.holds Try.pinned (OpenSpec.ofChange modelRunsWrong)

/-- 'annalistlaw11.ModelJoins': WHATEVER THE INPUT: true; the input reads as it did. -/
def modelJoinsSpec : ChangeSpec := { name := "modelJoins", fn := fun _ => fun
  | [d1, d2, d3] => { results := [.lit (.bool true)], args := [d1, d2, d3] }
  | _ => none }
def modelJoinsRow : OpenClaim := { program := "ytookcollmijjkaa", sum := "769fb984a5943e4600b8485343460c8daa84ff28125f5aa7c0d409213d653f75", func := "annalist/annalistlaw11.ModelJoins", spec := "modelJoins", inPlace := ["slices.overlaps[int]"], apart := false }
def ModelJoinsSaid : Prop := modelJoinsRow.holds Try.pinned (OpenSpec.ofChange modelJoinsSpec)

/-- ITS FALSE NEIGHBOUR: 'it returns false'. Refute it at one input. -/
def modelJoinsWrong : ChangeSpec := { name := "modelJoins", fn := fun _ => fun
  | [d1, d2, d3] => { results := [.lit (.bool false)], args := [d1, d2, d3] }
  | _ => none }
def ModelJoinsWrongFalsely : Prop := modelJoinsRow.holds Try.pinned (OpenSpec.ofChange modelJoinsWrong)

/-- 'annalistlaw11.ModelTexts': WHATEVER THE INPUT: true; the input reads as it did. -/
def modelTextsSpec : ChangeSpec := { name := "modelTexts", fn := fun _ => fun
  | [d1, d2] => { results := [.lit (.bool true)], args := [d1, d2] }
  | _ => none }
def modelTextsRow : OpenClaim := { program := "ytookcollmijjkaa", sum := "769fb984a5943e4600b8485343460c8daa84ff28125f5aa7c0d409213d653f75", func := "annalist/annalistlaw11.ModelTexts", spec := "modelTexts", inPlace := ["slices.overlaps[int]"], recurses := true, apart := false }
def ModelTextsSaid : Prop := modelTextsRow.holds Try.pinned (OpenSpec.ofChange modelTextsSpec)

/-- ITS FALSE NEIGHBOUR: 'it returns false'. Refute it at one input. -/
def modelTextsWrong : ChangeSpec := { name := "modelTexts", fn := fun _ => fun
  | [d1, d2] => { results := [.lit (.bool false)], args := [d1, d2] }
  | _ => none }
def ModelTextsWrongFalsely : Prop := modelTextsRow.holds Try.pinned (OpenSpec.ofChange modelTextsWrong)

/-- 'annalistlaw11.ModelBack': WHATEVER THE INPUT: true; the input reads as it did. -/
def modelBackSpec : ChangeSpec := { name := "modelBack", fn := fun _ => fun
  | [d1, d2] => { results := [.lit (.bool true)], args := [d1, d2] }
  | _ => none }
def modelBackRow : OpenClaim := { program := "ytookcollmijjkaa", sum := "769fb984a5943e4600b8485343460c8daa84ff28125f5aa7c0d409213d653f75", func := "annalist/annalistlaw11.ModelBack", spec := "modelBack", inPlace := ["slices.overlaps[int]"], apart := false }
def ModelBackSaid : Prop := modelBackRow.holds Try.pinned (OpenSpec.ofChange modelBackSpec)

/-- ITS FALSE NEIGHBOUR: 'it returns false'. Refute it at one input. -/
def modelBackWrong : ChangeSpec := { name := "modelBack", fn := fun _ => fun
  | [d1, d2] => { results := [.lit (.bool false)], args := [d1, d2] }
  | _ => none }
def ModelBackWrongFalsely : Prop := modelBackRow.holds Try.pinned (OpenSpec.ofChange modelBackWrong)

/- THE SECOND FORM. 'bulk': how many values and letters a reading holds, each counted each time it is reached (what is shared counts as often as it is met; a slice's spare places count too). A statement '..UptoSaid' is the law's where the arguments, and the package variables that the reading takes, are together of bulk at most 1048576: NARROWER than '..Said'. Prove '..Said' where nothing that the law and all that it calls make is longer than what came in: it says more and counts as full. Else prove '..UptoSaid'. A law counts once. -/
mutual
def uptoBulk {H : Type} : DataW H → Nat
  | .lit (.string bytes) => bytes.length + 1
  | .lit _ => 1
  | .nil => 1
  | .ptr d => uptoBulk d + 1
  | .slice elems spare => uptoBulkAll elems + uptoBulkAll spare + 1
  | .agg parts => uptoBulkAll parts + 1
  | .iface _ d => uptoBulk d + 1
  | .map entries => uptoBulkEntries entries + 1
  | .held _ => 1
def uptoBulkAll {H : Type} : List (DataW H) → Nat
  | [] => 0
  | d :: r => uptoBulk d + uptoBulkAll r
def uptoBulkEntries {H : Type} : List (Lit × DataW H) → Nat
  | [] => 0
  | x :: r => uptoBulkEntry x + uptoBulkEntries r
def uptoBulkEntry {H : Type} : Lit × DataW H → Nat
  | (.string bytes, d) => bytes.length + uptoBulk d + 1
  | (_, d) => uptoBulk d + 1
 end
def uptoSmall : (H : Type) → List (DataW H) → Bool := fun _ ds => decide (uptoBulkAll ds ≤ 1048576)
def OpenSpec.upto (s : _root_.Go.ChangeSpec) : _root_.Go.OpenSpec := { _root_.Go.OpenSpec.ofChange s with cond := some uptoSmall }

/-- 'annalistlaw11.ModelLines', WHERE WHAT IT READS IS OF BULK AT MOST 1048576: true; the input reads as it did. -/
def modelLinesUptoRow : OpenClaim := { program := "ytookcollmijjkaa", sum := "769fb984a5943e4600b8485343460c8daa84ff28125f5aa7c0d409213d653f75", func := "annalist/annalistlaw11.ModelLines", spec := "modelLines", inPlace := ["slices.overlaps[int]"], apart := false, narrowed := true }
def ModelLinesUptoSaid : Prop := modelLinesUptoRow.holds Try.pinned (OpenSpec.upto modelLinesSpec)

/-- 'annalistlaw11.ModelDoes', WHERE WHAT IT READS IS OF BULK AT MOST 1048576: true; the input reads as it did. -/
def modelDoesUptoRow : OpenClaim := { program := "ytookcollmijjkaa", sum := "769fb984a5943e4600b8485343460c8daa84ff28125f5aa7c0d409213d653f75", func := "annalist/annalistlaw11.ModelDoes", spec := "modelDoes", inPlace := ["slices.overlaps[int]"], apart := false, narrowed := true }
def ModelDoesUptoSaid : Prop := modelDoesUptoRow.holds Try.pinned (OpenSpec.upto modelDoesSpec)

/-- 'annalistlaw11.ModelRuns', WHERE WHAT IT READS IS OF BULK AT MOST 1048576: true; the input reads as it did. -/
def modelRunsUptoRow : OpenClaim := { program := "ytookcollmijjkaa", sum := "769fb984a5943e4600b8485343460c8daa84ff28125f5aa7c0d409213d653f75", func := "annalist/annalistlaw11.ModelRuns", spec := "modelRuns", inPlace := ["slices.overlaps[int]"], apart := false, narrowed := true }
def ModelRunsUptoSaid : Prop := modelRunsUptoRow.holds Try.pinned (OpenSpec.upto modelRunsSpec)

/-- 'annalistlaw11.ModelJoins', WHERE WHAT IT READS IS OF BULK AT MOST 1048576: true; the input reads as it did. -/
def modelJoinsUptoRow : OpenClaim := { program := "ytookcollmijjkaa", sum := "769fb984a5943e4600b8485343460c8daa84ff28125f5aa7c0d409213d653f75", func := "annalist/annalistlaw11.ModelJoins", spec := "modelJoins", inPlace := ["slices.overlaps[int]"], apart := false, narrowed := true }
def ModelJoinsUptoSaid : Prop := modelJoinsUptoRow.holds Try.pinned (OpenSpec.upto modelJoinsSpec)

/-- 'annalistlaw11.ModelTexts', WHERE WHAT IT READS IS OF BULK AT MOST 1048576: true; the input reads as it did. -/
def modelTextsUptoRow : OpenClaim := { program := "ytookcollmijjkaa", sum := "769fb984a5943e4600b8485343460c8daa84ff28125f5aa7c0d409213d653f75", func := "annalist/annalistlaw11.ModelTexts", spec := "modelTexts", inPlace := ["slices.overlaps[int]"], recurses := true, apart := false, narrowed := true }
def ModelTextsUptoSaid : Prop := modelTextsUptoRow.holds Try.pinned (OpenSpec.upto modelTextsSpec)

/-- 'annalistlaw11.ModelBack', WHERE WHAT IT READS IS OF BULK AT MOST 1048576: true; the input reads as it did. -/
def modelBackUptoRow : OpenClaim := { program := "ytookcollmijjkaa", sum := "769fb984a5943e4600b8485343460c8daa84ff28125f5aa7c0d409213d653f75", func := "annalist/annalistlaw11.ModelBack", spec := "modelBack", inPlace := ["slices.overlaps[int]"], apart := false, narrowed := true }
def ModelBackUptoSaid : Prop := modelBackUptoRow.holds Try.pinned (OpenSpec.upto modelBackSpec)

end Rows
end Go.Proofs.Ytookcollmijjkaa
