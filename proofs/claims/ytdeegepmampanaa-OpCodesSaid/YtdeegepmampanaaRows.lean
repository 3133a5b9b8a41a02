/-
  No cell of these rows narrows 'for every input' (looked for: loops, veiled, ifaces, maps, wideKeys, modest, calm, conditions, laid).
  DERIVED. THE GIVEN ROWS OF THIS SEAT. 6 by the template 'for every input the law returns true; each argument reads behind the call as it read before'; 0 by the template 'total and deterministic' (their statements: YtdeegepmampanaaTotals.lean).
  GIVEN WITH THE SEED: the statements are not yours to turn. If you find one false, say at which input.
  Laid BY PROGRAM, IN A SANDBOX (cutbox-rows.mjs): the forced cells as the released guide's own fill.sh prints them over the translation 00562b1464cb6aad… (all of the seat's roots in one cut). By AI agents, Wed Nov 11 2026. No macro, syntax, notation, axiom, sorry.
-/
import Derived.Test.YtdeegepmampanaaChecked
import GoSem.Claim
import GoSem.ClaimJoined
import GoSem.ClaimMapViews
import Derived.JoinedTies
import Derived.KernelRfl
namespace Go.Proofs.Ytdeegepmampanaa
/- THE CELL 'sum', in the pinned program and in every row, IS THE sha256 OF THE DUMP (.gsa) THAT YtdeegepmampanaaProg.lean LOADS. Nothing in Lean hashes anything: it is a label: what it is worth is what the hold of that sum in a sandbox is worth. -/
noncomputable def Try.pinned : Pinned := { name := "ytdeegepmampanaa", sum := "00562b1464cb6aadbf3714193a3b5e6c273945d561d9f799b94c458f7a762bbe", checked := Try.checked }
namespace Rows
def none {H : Type} : Left H := { results := [], args := [] }

/-- 'annalistlaw10.OpFits': WHATEVER THE INPUT: true; the input reads as it did. -/
def opFitsSpec : ChangeSpec := { name := "opFits", fn := fun _ => fun
  | [d1, d2] => { results := [.lit (.bool true)], args := [d1, d2] }
  | _ => none }
def opFitsRow : OpenClaim := { program := "ytdeegepmampanaa", sum := "00562b1464cb6aadbf3714193a3b5e6c273945d561d9f799b94c458f7a762bbe", func := "annalist/annalistlaw10.OpFits", spec := "opFits", apart := false }
def OpFitsSaid : Prop := opFitsRow.holds Try.pinned (OpenSpec.ofChange opFitsSpec)

/-- ITS FALSE NEIGHBOUR: 'it returns false'. Refute it at one input. -/
def opFitsWrong : ChangeSpec := { name := "opFits", fn := fun _ => fun
  | [d1, d2] => { results := [.lit (.bool false)], args := [d1, d2] }
  | _ => none }
def OpFitsWrongFalsely : Prop := opFitsRow.holds Try.pinned (OpenSpec.ofChange opFitsWrong)

/-- 'annalistlaw10.OpChecks': WHATEVER THE INPUT: true; the input reads as it did. -/
def opChecksSpec : ChangeSpec := { name := "opChecks", fn := fun _ => fun
  | [d] => { results := [.lit (.bool true)], args := [d] }
  | _ => none }
def opChecksRow : OpenClaim := { program := "ytdeegepmampanaa", sum := "00562b1464cb6aadbf3714193a3b5e6c273945d561d9f799b94c458f7a762bbe", func := "annalist/annalistlaw10.OpChecks", spec := "opChecks", apart := false }
def OpChecksSaid : Prop := opChecksRow.holds Try.pinned (OpenSpec.ofChange opChecksSpec)

/-- ITS FALSE NEIGHBOUR: 'it returns false'. Refute it at one input. -/
def opChecksWrong : ChangeSpec := { name := "opChecks", fn := fun _ => fun
  | [d] => { results := [.lit (.bool false)], args := [d] }
  | _ => none }
def OpChecksWrongFalsely : Prop := opChecksRow.holds Try.pinned (OpenSpec.ofChange opChecksWrong)

/-- 'annalistlaw10.OpTimes': WHATEVER THE INPUT: true; the input reads as it did. -/
def opTimesSpec : ChangeSpec := { name := "opTimes", fn := fun _ => fun
  | [d1, d2] => { results := [.lit (.bool true)], args := [d1, d2] }
  | _ => none }
def opTimesRow : OpenClaim := { program := "ytdeegepmampanaa", sum := "00562b1464cb6aadbf3714193a3b5e6c273945d561d9f799b94c458f7a762bbe", func := "annalist/annalistlaw10.OpTimes", spec := "opTimes", apart := false }
def OpTimesSaid : Prop := opTimesRow.holds Try.pinned (OpenSpec.ofChange opTimesSpec)

/-- ITS FALSE NEIGHBOUR: 'it returns false'. Refute it at one input. -/
def opTimesWrong : ChangeSpec := { name := "opTimes", fn := fun _ => fun
  | [d1, d2] => { results := [.lit (.bool false)], args := [d1, d2] }
  | _ => none }
def OpTimesWrongFalsely : Prop := opTimesRow.holds Try.pinned (OpenSpec.ofChange opTimesWrong)

/-- 'annalistlaw10.OpOrders': WHATEVER THE INPUT: true; the input reads as it did. -/
def opOrdersSpec : ChangeSpec := { name := "opOrders", fn := fun _ => fun
  | [d1, d2, d3] => { results := [.lit (.bool true)], args := [d1, d2, d3] }
  | _ => none }
def opOrdersRow : OpenClaim := { program := "ytdeegepmampanaa", sum := "00562b1464cb6aadbf3714193a3b5e6c273945d561d9f799b94c458f7a762bbe", func := "annalist/annalistlaw10.OpOrders", spec := "opOrders", apart := false }
def OpOrdersSaid : Prop := opOrdersRow.holds Try.pinned (OpenSpec.ofChange opOrdersSpec)

/-- ITS FALSE NEIGHBOUR: 'it returns false'. Refute it at one input. -/
def opOrdersWrong : ChangeSpec := { name := "opOrders", fn := fun _ => fun
  | [d1, d2, d3] => { results := [.lit (.bool false)], args := [d1, d2, d3] }
  | _ => none }
def OpOrdersWrongFalsely : Prop := opOrdersRow.holds Try.pinned (OpenSpec.ofChange opOrdersWrong)

/-- 'annalistlaw10.OpCodes': WHATEVER THE INPUT: true; the input reads as it did. -/
def opCodesSpec : ChangeSpec := { name := "opCodes", fn := fun _ => fun
  | [d1, d2] => { results := [.lit (.bool true)], args := [d1, d2] }
  | _ => none }
def opCodesRow : OpenClaim := { program := "ytdeegepmampanaa", sum := "00562b1464cb6aadbf3714193a3b5e6c273945d561d9f799b94c458f7a762bbe", func := "annalist/annalistlaw10.OpCodes", spec := "opCodes", inPlace := ["internal/abi.NoEscape"], recurses := true, apart := false }
def OpCodesSaid : Prop := opCodesRow.holds Try.pinned (OpenSpec.ofChange opCodesSpec)

/-- ITS FALSE NEIGHBOUR: 'it returns false'. Refute it at one input. -/
def opCodesWrong : ChangeSpec := { name := "opCodes", fn := fun _ => fun
  | [d1, d2] => { results := [.lit (.bool false)], args := [d1, d2] }
  | _ => none }
def OpCodesWrongFalsely : Prop := opCodesRow.holds Try.pinned (OpenSpec.ofChange opCodesWrong)

/-- 'annalistlaw10.OpBack': WHATEVER THE INPUT: true; the input reads as it did. -/
def opBackSpec : ChangeSpec := { name := "opBack", fn := fun _ => fun
  | [d1, d2] => { results := [.lit (.bool true)], args := [d1, d2] }
  | _ => none }
def opBackRow : OpenClaim := { program := "ytdeegepmampanaa", sum := "00562b1464cb6aadbf3714193a3b5e6c273945d561d9f799b94c458f7a762bbe", func := "annalist/annalistlaw10.OpBack", spec := "opBack", inPlace := ["internal/abi.NoEscape"], apart := false }
def OpBackSaid : Prop := opBackRow.holds Try.pinned (OpenSpec.ofChange opBackSpec)

/-- ITS FALSE NEIGHBOUR: 'it returns false'. Refute it at one input. -/
def opBackWrong : ChangeSpec := { name := "opBack", fn := fun _ => fun
  | [d1, d2] => { results := [.lit (.bool false)], args := [d1, d2] }
  | _ => none }
def OpBackWrongFalsely : Prop := opBackRow.holds Try.pinned (OpenSpec.ofChange opBackWrong)

/- THE SECOND FORM. 'bulk': how many values and letters a reading holds, each counted each time it is reached (what is shared counts as often as it is met; a slice's spare places count too). A statement '..UptoSaid' is the law's where the arguments, and the package variables that the reading takes, are together of bulk at most 1048576: NARROWER than '..Said'. Prove '..Said' where nothing that the law and all that it calls make is longer than what came in: it says more and counts as full. Else prove '..UptoSaid'. A law counts once. -/
mutual
def uptoBulk {H : Type} : DataW H → Nat
  | .lit (.string bytes) => bytes.length + 1
  | .lit _ => 1
  | .nil => 1
  | .ptr d => uptoBulk d + 1
  | .slice elems spare => uptoBulkAll elems + uptoBulkAll spare + 1
  | .agg parts => uptoBulkAll parts + 1
  | .iface _ d => uptoBulk d + 1
  | .map entries => uptoBulkEntries entries + 1
  | .held _ => 1
def uptoBulkAll {H : Type} : List (DataW H) → Nat
  | [] => 0
  | d :: r => uptoBulk d + uptoBulkAll r
def uptoBulkEntries {H : Type} : List (Lit × DataW H) → Nat
  | [] => 0
  | x :: r => uptoBulkEntry x + uptoBulkEntries r
def uptoBulkEntry {H : Type} : Lit × DataW H → Nat
  | (.string bytes, d) => bytes.length + uptoBulk d + 1
  | (_, d) => uptoBulk d + 1
 end
def uptoSmall : (H : Type) → List (DataW H) → Bool := fun _ ds => decide (uptoBulkAll ds ≤ 1048576)
def OpenSpec.upto (s : _root_.Go.ChangeSpec) : _root_.Go.OpenSpec := { _root_.Go.OpenSpec.ofChange s with cond := some uptoSmall }

/-- 'annalistlaw10.OpFits', WHERE WHAT IT READS IS OF BULK AT MOST 1048576: true; the input reads as it did. -/
def opFitsUptoRow : OpenClaim := { program := "ytdeegepmampanaa", sum := "00562b1464cb6aadbf3714193a3b5e6c273945d561d9f799b94c458f7a762bbe", func := "annalist/annalistlaw10.OpFits", spec := "opFits", apart := false, narrowed := true }
def OpFitsUptoSaid : Prop := opFitsUptoRow.holds Try.pinned (OpenSpec.upto opFitsSpec)

/-- 'annalistlaw10.OpChecks', WHERE WHAT IT READS IS OF BULK AT MOST 1048576: true; the input reads as it did. -/
def opChecksUptoRow : OpenClaim := { program := "ytdeegepmampanaa", sum := "00562b1464cb6aadbf3714193a3b5e6c273945d561d9f799b94c458f7a762bbe", func := "annalist/annalistlaw10.OpChecks", spec := "opChecks", apart := false, narrowed := true }
def OpChecksUptoSaid : Prop := opChecksUptoRow.holds Try.pinned (OpenSpec.upto opChecksSpec)

/-- 'annalistlaw10.OpTimes', WHERE WHAT IT READS IS OF BULK AT MOST 1048576: true; the input reads as it did. -/
def opTimesUptoRow : OpenClaim := { program := "ytdeegepmampanaa", sum := "00562b1464cb6aadbf3714193a3b5e6c273945d561d9f799b94c458f7a762bbe", func := "annalist/annalistlaw10.OpTimes", spec := "opTimes", apart := false, narrowed := true }
def OpTimesUptoSaid : Prop := opTimesUptoRow.holds Try.pinned (OpenSpec.upto opTimesSpec)

/-- 'annalistlaw10.OpOrders', WHERE WHAT IT READS IS OF BULK AT MOST 1048576: true; the input reads as it did. -/
def opOrdersUptoRow : OpenClaim := { program := "ytdeegepmampanaa", sum := "00562b1464cb6aadbf3714193a3b5e6c273945d561d9f799b94c458f7a762bbe", func := "annalist/annalistlaw10.OpOrders", spec := "opOrders", apart := false, narrowed := true }
def OpOrdersUptoSaid : Prop := opOrdersUptoRow.holds Try.pinned (OpenSpec.upto opOrdersSpec)

/-- 'annalistlaw10.OpCodes', WHERE WHAT IT READS IS OF BULK AT MOST 1048576: true; the input reads as it did. -/
def opCodesUptoRow : OpenClaim := { program := "ytdeegepmampanaa", sum := "00562b1464cb6aadbf3714193a3b5e6c273945d561d9f799b94c458f7a762bbe", func := "annalist/annalistlaw10.OpCodes", spec := "opCodes", inPlace := ["internal/abi.NoEscape"], recurses := true, apart := false, narrowed := true }
def OpCodesUptoSaid : Prop := opCodesUptoRow.holds Try.pinned (OpenSpec.upto opCodesSpec)

/-- 'annalistlaw10.OpBack', WHERE WHAT IT READS IS OF BULK AT MOST 1048576: true; the input reads as it did. -/
def opBackUptoRow : OpenClaim := { program := "ytdeegepmampanaa", sum := "00562b1464cb6aadbf3714193a3b5e6c273945d561d9f799b94c458f7a762bbe", func := "annalist/annalistlaw10.OpBack", spec := "opBack", inPlace := ["internal/abi.NoEscape"], apart := false, narrowed := true }
def OpBackUptoSaid : Prop := opBackUptoRow.holds Try.pinned (OpenSpec.upto opBackSpec)

end Rows
end Go.Proofs.Ytdeegepmampanaa
