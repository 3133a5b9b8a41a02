/-
  No cell of these rows narrows 'for every input' (looked for: loops, veiled, ifaces, maps, wideKeys, modest, calm, conditions, laid).
  DERIVED. THE GIVEN ROWS OF THIS SEAT. 4 by the template 'for every input the law returns true; each argument reads behind the call as it read before'; 0 by the template 'total and deterministic' (their statements: YtljimlaalebmaaaTotals.lean).
  GIVEN WITH THE SEED: the statements are not yours to turn. If you find one false, say at which input.
  Laid BY PROGRAM, IN A SANDBOX (cutbox-rows.mjs): the forced cells as the released guide's own fill.sh prints them over the translation 49561685d5954874… (all of the seat's roots in one cut). By AI agents, Wed Nov 11 2026. No macro, syntax, notation, axiom, sorry.
-/
import Derived.Test.YtljimlaalebmaaaChecked
import GoSem.Claim
import GoSem.ClaimJoined
import GoSem.ClaimMapViews
import Derived.JoinedTies
import Derived.KernelRfl
namespace Go.Proofs.Ytljimlaalebmaaa
/- THE CELL 'sum', in the pinned program and in every row, IS THE sha256 OF THE DUMP (.gsa) THAT YtljimlaalebmaaaProg.lean LOADS. Nothing in Lean hashes anything: it is a label: what it is worth is what the hold of that sum in a sandbox is worth. -/
noncomputable def Try.pinned : Pinned := { name := "ytljimlaalebmaaa", sum := "49561685d59548746fd0a1fd6f18f382394876f1a67e83f126af7c8e9eea3a20", checked := Try.checked }
namespace Rows
def none {H : Type} : Left H := { results := [], args := [] }

/-- 'annalistlaw12.HistSound': WHATEVER THE INPUT: true; the input reads as it did. -/
def histSoundSpec : ChangeSpec := { name := "histSound", fn := fun _ => fun
  | [d] => { results := [.lit (.bool true)], args := [d] }
  | _ => none }
def histSoundRow : OpenClaim := { program := "ytljimlaalebmaaa", sum := "49561685d59548746fd0a1fd6f18f382394876f1a67e83f126af7c8e9eea3a20", func := "annalist/annalistlaw12.HistSound", spec := "histSound", inPlace := ["slices.overlaps[annalist/api.Op]"], unfollowed := true, recurses := true, apart := false }
def HistSoundSaid : Prop := histSoundRow.holds Try.pinned (OpenSpec.ofChange histSoundSpec)

/-- ITS FALSE NEIGHBOUR: 'it returns false'. Refute it at one input. -/
def histSoundWrong : ChangeSpec := { name := "histSound", fn := fun _ => fun
  | [d] => { results := [.lit (.bool false)], args := [d] }
  | _ => none }
def HistSoundWrongFalsely : Prop := histSoundRow.holds Try.pinned (OpenSpec.ofChange histSoundWrong)

/-- 'annalistlaw12.HistBack': WHATEVER THE INPUT: true; the input reads as it did. -/
def histBackSpec : ChangeSpec := { name := "histBack", fn := fun _ => fun
  | [d1, d2] => { results := [.lit (.bool true)], args := [d1, d2] }
  | _ => none }
def histBackRow : OpenClaim := { program := "ytljimlaalebmaaa", sum := "49561685d59548746fd0a1fd6f18f382394876f1a67e83f126af7c8e9eea3a20", func := "annalist/annalistlaw12.HistBack", spec := "histBack", inPlace := ["slices.overlaps[annalist/api.Op]"], unfollowed := true, recurses := true, apart := false }
def HistBackSaid : Prop := histBackRow.holds Try.pinned (OpenSpec.ofChange histBackSpec)

/-- ITS FALSE NEIGHBOUR: 'it returns false'. Refute it at one input. -/
def histBackWrong : ChangeSpec := { name := "histBack", fn := fun _ => fun
  | [d1, d2] => { results := [.lit (.bool false)], args := [d1, d2] }
  | _ => none }
def HistBackWrongFalsely : Prop := histBackRow.holds Try.pinned (OpenSpec.ofChange histBackWrong)

/-- 'annalistlaw12.HistTwo': WHATEVER THE INPUT: true; the input reads as it did. -/
def histTwoSpec : ChangeSpec := { name := "histTwo", fn := fun _ => fun
  | [d1, d2, d3] => { results := [.lit (.bool true)], args := [d1, d2, d3] }
  | _ => none }
def histTwoRow : OpenClaim := { program := "ytljimlaalebmaaa", sum := "49561685d59548746fd0a1fd6f18f382394876f1a67e83f126af7c8e9eea3a20", func := "annalist/annalistlaw12.HistTwo", spec := "histTwo", inPlace := ["slices.overlaps[annalist/api.Op]"], unfollowed := true, recurses := true, apart := false }
def HistTwoSaid : Prop := histTwoRow.holds Try.pinned (OpenSpec.ofChange histTwoSpec)

/-- ITS FALSE NEIGHBOUR: 'it returns false'. Refute it at one input. -/
def histTwoWrong : ChangeSpec := { name := "histTwo", fn := fun _ => fun
  | [d1, d2, d3] => { results := [.lit (.bool false)], args := [d1, d2, d3] }
  | _ => none }
def HistTwoWrongFalsely : Prop := histTwoRow.holds Try.pinned (OpenSpec.ofChange histTwoWrong)

/-- 'annalistlaw12.HistChecks': WHATEVER THE INPUT: true; the input reads as it did. -/
def histChecksSpec : ChangeSpec := { name := "histChecks", fn := fun _ => fun
  | [d1, d2] => { results := [.lit (.bool true)], args := [d1, d2] }
  | _ => none }
def histChecksRow : OpenClaim := { program := "ytljimlaalebmaaa", sum := "49561685d59548746fd0a1fd6f18f382394876f1a67e83f126af7c8e9eea3a20", func := "annalist/annalistlaw12.HistChecks", spec := "histChecks", inPlace := ["slices.overlaps[annalist/api.Op]"], unfollowed := true, recurses := true, apart := false }
def HistChecksSaid : Prop := histChecksRow.holds Try.pinned (OpenSpec.ofChange histChecksSpec)

/-- ITS FALSE NEIGHBOUR: 'it returns false'. Refute it at one input. -/
def histChecksWrong : ChangeSpec := { name := "histChecks", fn := fun _ => fun
  | [d1, d2] => { results := [.lit (.bool false)], args := [d1, d2] }
  | _ => none }
def HistChecksWrongFalsely : Prop := histChecksRow.holds Try.pinned (OpenSpec.ofChange histChecksWrong)

/- THE SECOND FORM. 'bulk': how many values and letters a reading holds, each counted each time it is reached (what is shared counts as often as it is met; a slice's spare places count too). A statement '..UptoSaid' is the law's where the arguments, and the package variables that the reading takes, are together of bulk at most 1048576: NARROWER than '..Said'. Prove '..Said' where nothing that the law and all that it calls make is longer than what came in: it says more and counts as full. Else prove '..UptoSaid'. A law counts once. -/
mutual
def uptoBulk {H : Type} : DataW H → Nat
  | .lit (.string bytes) => bytes.length + 1
  | .lit _ => 1
  | .nil => 1
  | .ptr d => uptoBulk d + 1
  | .slice elems spare => uptoBulkAll elems + uptoBulkAll spare + 1
  | .agg parts => uptoBulkAll parts + 1
  | .iface _ d => uptoBulk d + 1
  | .map entries => uptoBulkEntries entries + 1
  | .held _ => 1
def uptoBulkAll {H : Type} : List (DataW H) → Nat
  | [] => 0
  | d :: r => uptoBulk d + uptoBulkAll r
def uptoBulkEntries {H : Type} : List (Lit × DataW H) → Nat
  | [] => 0
  | x :: r => uptoBulkEntry x + uptoBulkEntries r
def uptoBulkEntry {H : Type} : Lit × DataW H → Nat
  | (.string bytes, d) => bytes.length + uptoBulk d + 1
  | (_, d) => uptoBulk d + 1
 end
def uptoSmall : (H : Type) → List (DataW H) → Bool := fun _ ds => decide (uptoBulkAll ds ≤ 1048576)
def OpenSpec.upto (s : _root_.Go.ChangeSpec) : _root_.Go.OpenSpec := { _root_.Go.OpenSpec.ofChange s with cond := some uptoSmall }

/-- 'annalistlaw12.HistSound', WHERE WHAT IT READS IS OF BULK AT MOST 1048576: true; the input reads as it did. -/
def histSoundUptoRow : OpenClaim := { program := "ytljimlaalebmaaa", sum := "49561685d59548746fd0a1fd6f18f382394876f1a67e83f126af7c8e9eea3a20", func := "annalist/annalistlaw12.HistSound", spec := "histSound", inPlace := ["slices.overlaps[annalist/api.Op]"], unfollowed := true, recurses := true, apart := false, narrowed := true }
def HistSoundUptoSaid : Prop := histSoundUptoRow.holds Try.pinned (OpenSpec.upto histSoundSpec)

/-- 'annalistlaw12.HistBack', WHERE WHAT IT READS IS OF BULK AT MOST 1048576: true; the input reads as it did. -/
def histBackUptoRow : OpenClaim := { program := "ytljimlaalebmaaa", sum := "49561685d59548746fd0a1fd6f18f382394876f1a67e83f126af7c8e9eea3a20", func := "annalist/annalistlaw12.HistBack", spec := "histBack", inPlace := ["slices.overlaps[annalist/api.Op]"], unfollowed := true, recurses := true, apart := false, narrowed := true }
def HistBackUptoSaid : Prop := histBackUptoRow.holds Try.pinned (OpenSpec.upto histBackSpec)

/-- 'annalistlaw12.HistTwo', WHERE WHAT IT READS IS OF BULK AT MOST 1048576: true; the input reads as it did. -/
def histTwoUptoRow : OpenClaim := { program := "ytljimlaalebmaaa", sum := "49561685d59548746fd0a1fd6f18f382394876f1a67e83f126af7c8e9eea3a20", func := "annalist/annalistlaw12.HistTwo", spec := "histTwo", inPlace := ["slices.overlaps[annalist/api.Op]"], unfollowed := true, recurses := true, apart := false, narrowed := true }
def HistTwoUptoSaid : Prop := histTwoUptoRow.holds Try.pinned (OpenSpec.upto histTwoSpec)

/-- 'annalistlaw12.HistChecks', WHERE WHAT IT READS IS OF BULK AT MOST 1048576: true; the input reads as it did. -/
def histChecksUptoRow : OpenClaim := { program := "ytljimlaalebmaaa", sum := "49561685d59548746fd0a1fd6f18f382394876f1a67e83f126af7c8e9eea3a20", func := "annalist/annalistlaw12.HistChecks", spec := "histChecks", inPlace := ["slices.overlaps[annalist/api.Op]"], unfollowed := true, recurses := true, apart := false, narrowed := true }
def HistChecksUptoSaid : Prop := histChecksUptoRow.holds Try.pinned (OpenSpec.upto histChecksSpec)

end Rows
end Go.Proofs.Ytljimlaalebmaaa
