/-
  No cell of these rows narrows 'for every input' (looked for: loops, veiled, ifaces, maps, wideKeys, modest, calm, conditions, laid).
  DERIVED. THE GIVEN ROWS OF THIS SEAT. 5 by the template 'for every input the law returns true; each argument reads behind the call as it read before'; 0 by the template 'total and deterministic' (their statements: YtnohdicnofffdaaTotals.lean).
  GIVEN WITH THE SEED: the statements are not yours to turn. If you find one false, say at which input.
  Laid BY PROGRAM, IN A SANDBOX (cutbox-rows.mjs): the forced cells as the released guide's own fill.sh prints them over the translation 79ba688ef913960f… (all of the seat's roots in one cut). By AI agents, Wed Nov 11 2026. No macro, syntax, notation, axiom, sorry.
-/
import Derived.Test.YtnohdicnofffdaaChecked
import GoSem.Claim
import GoSem.ClaimJoined
import GoSem.ClaimMapViews
import Derived.JoinedTies
import Derived.KernelRfl
namespace Go.Proofs.Ytnohdicnofffdaa
/- THE CELL 'sum', in the pinned program and in every row, IS THE sha256 OF THE DUMP (.gsa) THAT YtnohdicnofffdaaProg.lean LOADS. Nothing in Lean hashes anything: it is a label: what it is worth is what the hold of that sum in a sandbox is worth. -/
noncomputable def Try.pinned : Pinned := { name := "ytnohdicnofffdaa", sum := "79ba688ef913960f4ec698db327e0342012c10a4ca59ccc10aa827e4379240df", checked := Try.checked }
namespace Rows
def none {H : Type} : Left H := { results := [], args := [] }

/-- 'annalistlaw09.KeyMakes': WHATEVER THE INPUT: true; the input reads as it did. -/
def keyMakesSpec : ChangeSpec := { name := "keyMakes", fn := fun _ => fun
  | [d] => { results := [.lit (.bool true)], args := [d] }
  | _ => none }
def keyMakesRow : OpenClaim := { program := "ytnohdicnofffdaa", sum := "79ba688ef913960f4ec698db327e0342012c10a4ca59ccc10aa827e4379240df", func := "annalist/annalistlaw09.KeyMakes", spec := "keyMakes", apart := false }
def KeyMakesSaid : Prop := keyMakesRow.holds Try.pinned (OpenSpec.ofChange keyMakesSpec)

/-- ITS FALSE NEIGHBOUR: 'it returns false'. Refute it at one input. -/
def keyMakesWrong : ChangeSpec := { name := "keyMakes", fn := fun _ => fun
  | [d] => { results := [.lit (.bool false)], args := [d] }
  | _ => none }
def KeyMakesWrongFalsely : Prop := keyMakesRow.holds Try.pinned (OpenSpec.ofChange keyMakesWrong)

/-- 'annalistlaw09.KeyRises': WHATEVER THE INPUT: true; the input reads as it did. -/
def keyRisesSpec : ChangeSpec := { name := "keyRises", fn := fun _ => fun
  | [d1, d2] => { results := [.lit (.bool true)], args := [d1, d2] }
  | _ => none }
def keyRisesRow : OpenClaim := { program := "ytnohdicnofffdaa", sum := "79ba688ef913960f4ec698db327e0342012c10a4ca59ccc10aa827e4379240df", func := "annalist/annalistlaw09.KeyRises", spec := "keyRises", apart := false }
def KeyRisesSaid : Prop := keyRisesRow.holds Try.pinned (OpenSpec.ofChange keyRisesSpec)

/-- ITS FALSE NEIGHBOUR: 'it returns false'. Refute it at one input. -/
def keyRisesWrong : ChangeSpec := { name := "keyRises", fn := fun _ => fun
  | [d1, d2] => { results := [.lit (.bool false)], args := [d1, d2] }
  | _ => none }
def KeyRisesWrongFalsely : Prop := keyRisesRow.holds Try.pinned (OpenSpec.ofChange keyRisesWrong)

/-- 'annalistlaw09.KeyFronts': WHATEVER THE INPUT: true; the input reads as it did. -/
def keyFrontsSpec : ChangeSpec := { name := "keyFronts", fn := fun _ => fun
  | [d1, d2] => { results := [.lit (.bool true)], args := [d1, d2] }
  | _ => none }
def keyFrontsRow : OpenClaim := { program := "ytnohdicnofffdaa", sum := "79ba688ef913960f4ec698db327e0342012c10a4ca59ccc10aa827e4379240df", func := "annalist/annalistlaw09.KeyFronts", spec := "keyFronts", apart := false }
def KeyFrontsSaid : Prop := keyFrontsRow.holds Try.pinned (OpenSpec.ofChange keyFrontsSpec)

/-- ITS FALSE NEIGHBOUR: 'it returns false'. Refute it at one input. -/
def keyFrontsWrong : ChangeSpec := { name := "keyFronts", fn := fun _ => fun
  | [d1, d2] => { results := [.lit (.bool false)], args := [d1, d2] }
  | _ => none }
def KeyFrontsWrongFalsely : Prop := keyFrontsRow.holds Try.pinned (OpenSpec.ofChange keyFrontsWrong)

/-- 'annalistlaw09.KeySplits': WHATEVER THE INPUT: true; the input reads as it did. -/
def keySplitsSpec : ChangeSpec := { name := "keySplits", fn := fun _ => fun
  | [d] => { results := [.lit (.bool true)], args := [d] }
  | _ => none }
def keySplitsRow : OpenClaim := { program := "ytnohdicnofffdaa", sum := "79ba688ef913960f4ec698db327e0342012c10a4ca59ccc10aa827e4379240df", func := "annalist/annalistlaw09.KeySplits", spec := "keySplits", apart := false }
def KeySplitsSaid : Prop := keySplitsRow.holds Try.pinned (OpenSpec.ofChange keySplitsSpec)

/-- ITS FALSE NEIGHBOUR: 'it returns false'. Refute it at one input. -/
def keySplitsWrong : ChangeSpec := { name := "keySplits", fn := fun _ => fun
  | [d] => { results := [.lit (.bool false)], args := [d] }
  | _ => none }
def KeySplitsWrongFalsely : Prop := keySplitsRow.holds Try.pinned (OpenSpec.ofChange keySplitsWrong)

/-- 'annalistlaw09.KeyBack': WHATEVER THE INPUT: true; the input reads as it did. -/
def keyBackSpec : ChangeSpec := { name := "keyBack", fn := fun _ => fun
  | [d1, d2] => { results := [.lit (.bool true)], args := [d1, d2] }
  | _ => none }
def keyBackRow : OpenClaim := { program := "ytnohdicnofffdaa", sum := "79ba688ef913960f4ec698db327e0342012c10a4ca59ccc10aa827e4379240df", func := "annalist/annalistlaw09.KeyBack", spec := "keyBack", apart := false }
def KeyBackSaid : Prop := keyBackRow.holds Try.pinned (OpenSpec.ofChange keyBackSpec)

/-- ITS FALSE NEIGHBOUR: 'it returns false'. Refute it at one input. -/
def keyBackWrong : ChangeSpec := { name := "keyBack", fn := fun _ => fun
  | [d1, d2] => { results := [.lit (.bool false)], args := [d1, d2] }
  | _ => none }
def KeyBackWrongFalsely : Prop := keyBackRow.holds Try.pinned (OpenSpec.ofChange keyBackWrong)

/- THE SECOND FORM. 'bulk': how many values and letters a reading holds, each counted each time it is reached (what is shared counts as often as it is met; a slice's spare places count too). A statement '..UptoSaid' is the law's where the arguments, and the package variables that the reading takes, are together of bulk at most 1048576: NARROWER than '..Said'. Prove '..Said' where nothing that the law and all that it calls make is longer than what came in: it says more and counts as full. Else prove '..UptoSaid'. A law counts once. -/
mutual
def uptoBulk {H : Type} : DataW H → Nat
  | .lit (.string bytes) => bytes.length + 1
  | .lit _ => 1
  | .nil => 1
  | .ptr d => uptoBulk d + 1
  | .slice elems spare => uptoBulkAll elems + uptoBulkAll spare + 1
  | .agg parts => uptoBulkAll parts + 1
  | .iface _ d => uptoBulk d + 1
  | .map entries => uptoBulkEntries entries + 1
  | .held _ => 1
def uptoBulkAll {H : Type} : List (DataW H) → Nat
  | [] => 0
  | d :: r => uptoBulk d + uptoBulkAll r
def uptoBulkEntries {H : Type} : List (Lit × DataW H) → Nat
  | [] => 0
  | x :: r => uptoBulkEntry x + uptoBulkEntries r
def uptoBulkEntry {H : Type} : Lit × DataW H → Nat
  | (.string bytes, d) => bytes.length + uptoBulk d + 1
  | (_, d) => uptoBulk d + 1
 end
def uptoSmall : (H : Type) → List (DataW H) → Bool := fun _ ds => decide (uptoBulkAll ds ≤ 1048576)
def OpenSpec.upto (s : _root_.Go.ChangeSpec) : _root_.Go.OpenSpec := { _root_.Go.OpenSpec.ofChange s with cond := some uptoSmall }

/-- 'annalistlaw09.KeyMakes', WHERE WHAT IT READS IS OF BULK AT MOST 1048576: true; the input reads as it did. -/
def keyMakesUptoRow : OpenClaim := { program := "ytnohdicnofffdaa", sum := "79ba688ef913960f4ec698db327e0342012c10a4ca59ccc10aa827e4379240df", func := "annalist/annalistlaw09.KeyMakes", spec := "keyMakes", apart := false, narrowed := true }
def KeyMakesUptoSaid : Prop := keyMakesUptoRow.holds Try.pinned (OpenSpec.upto keyMakesSpec)

/-- 'annalistlaw09.KeyRises', WHERE WHAT IT READS IS OF BULK AT MOST 1048576: true; the input reads as it did. -/
def keyRisesUptoRow : OpenClaim := { program := "ytnohdicnofffdaa", sum := "79ba688ef913960f4ec698db327e0342012c10a4ca59ccc10aa827e4379240df", func := "annalist/annalistlaw09.KeyRises", spec := "keyRises", apart := false, narrowed := true }
def KeyRisesUptoSaid : Prop := keyRisesUptoRow.holds Try.pinned (OpenSpec.upto keyRisesSpec)

/-- 'annalistlaw09.KeyFronts', WHERE WHAT IT READS IS OF BULK AT MOST 1048576: true; the input reads as it did. -/
def keyFrontsUptoRow : OpenClaim := { program := "ytnohdicnofffdaa", sum := "79ba688ef913960f4ec698db327e0342012c10a4ca59ccc10aa827e4379240df", func := "annalist/annalistlaw09.KeyFronts", spec := "keyFronts", apart := false, narrowed := true }
def KeyFrontsUptoSaid : Prop := keyFrontsUptoRow.holds Try.pinned (OpenSpec.upto keyFrontsSpec)

/-- 'annalistlaw09.KeySplits', WHERE WHAT IT READS IS OF BULK AT MOST 1048576: true; the input reads as it did. -/
def keySplitsUptoRow : OpenClaim := { program := "ytnohdicnofffdaa", sum := "79ba688ef913960f4ec698db327e0342012c10a4ca59ccc10aa827e4379240df", func := "annalist/annalistlaw09.KeySplits", spec := "keySplits", apart := false, narrowed := true }
def KeySplitsUptoSaid : Prop := keySplitsUptoRow.holds Try.pinned (OpenSpec.upto keySplitsSpec)

/-- 'annalistlaw09.KeyBack', WHERE WHAT IT READS IS OF BULK AT MOST 1048576: true; the input reads as it did. -/
def keyBackUptoRow : OpenClaim := { program := "ytnohdicnofffdaa", sum := "79ba688ef913960f4ec698db327e0342012c10a4ca59ccc10aa827e4379240df", func := "annalist/annalistlaw09.KeyBack", spec := "keyBack", apart := false, narrowed := true }
def KeyBackUptoSaid : Prop := keyBackUptoRow.holds Try.pinned (OpenSpec.upto keyBackSpec)

end Rows
end Go.Proofs.Ytnohdicnofffdaa
