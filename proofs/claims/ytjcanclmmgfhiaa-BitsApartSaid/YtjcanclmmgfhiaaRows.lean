/-
  No cell of these rows narrows 'for every input' (looked for: loops, veiled, ifaces, maps, wideKeys, modest, calm, conditions, laid).
  DERIVED. THE GIVEN ROWS OF THIS SEAT. 8 by the template 'for every input the law returns true; each argument reads behind the call as it read before'; 0 by the template 'total and deterministic' (their statements: YtjcanclmmgfhiaaTotals.lean).
  GIVEN WITH THE SEED: the statements are not yours to turn. If you find one false, say at which input.
  Laid BY PROGRAM, IN A SANDBOX (cutbox-rows.mjs): the forced cells as the released guide's own fill.sh prints them over the translation e739121ce797c683… (all of the seat's roots in one cut). By AI agents, Wed Nov 11 2026. No macro, syntax, notation, axiom, sorry.
-/
import Derived.Test.YtjcanclmmgfhiaaChecked
import GoSem.Claim
import GoSem.ClaimJoined
import GoSem.ClaimMapViews
import Derived.JoinedTies
import Derived.KernelRfl
namespace Go.Proofs.Ytjcanclmmgfhiaa
/- THE CELL 'sum', in the pinned program and in every row, IS THE sha256 OF THE DUMP (.gsa) THAT YtjcanclmmgfhiaaProg.lean LOADS. Nothing in Lean hashes anything: it is a label: what it is worth is what the hold of that sum in a sandbox is worth. -/
noncomputable def Try.pinned : Pinned := { name := "ytjcanclmmgfhiaa", sum := "e739121ce797c6834f6533efea7cdd00330d61f08150e5ab4c258091e3b86dfc", checked := Try.checked }
namespace Rows
def none {H : Type} : Left H := { results := [], args := [] }

/-- 'annalistlaw01.BitsRises': WHATEVER THE INPUT: true; the input reads as it did. -/
def bitsRisesSpec : ChangeSpec := { name := "bitsRises", fn := fun _ => fun
  | [d1, d2] => { results := [.lit (.bool true)], args := [d1, d2] }
  | _ => none }
def bitsRisesRow : OpenClaim := { program := "ytjcanclmmgfhiaa", sum := "e739121ce797c6834f6533efea7cdd00330d61f08150e5ab4c258091e3b86dfc", func := "annalist/annalistlaw01.BitsRises", spec := "bitsRises", apart := false }
def BitsRisesSaid : Prop := bitsRisesRow.holds Try.pinned (OpenSpec.ofChange bitsRisesSpec)

/-- ITS FALSE NEIGHBOUR: 'it returns false'. Refute it at one input. -/
def bitsRisesWrong : ChangeSpec := { name := "bitsRises", fn := fun _ => fun
  | [d1, d2] => { results := [.lit (.bool false)], args := [d1, d2] }
  | _ => none }
def BitsRisesWrongFalsely : Prop := bitsRisesRow.holds Try.pinned (OpenSpec.ofChange bitsRisesWrong)

/-- 'annalistlaw01.BitsApart': WHATEVER THE INPUT: true; the input reads as it did. -/
def bitsApartSpec : ChangeSpec := { name := "bitsApart", fn := fun _ => fun
  | [d1, d2, d3] => { results := [.lit (.bool true)], args := [d1, d2, d3] }
  | _ => none }
def bitsApartRow : OpenClaim := { program := "ytjcanclmmgfhiaa", sum := "e739121ce797c6834f6533efea7cdd00330d61f08150e5ab4c258091e3b86dfc", func := "annalist/annalistlaw01.BitsApart", spec := "bitsApart", apart := false }
def BitsApartSaid : Prop := bitsApartRow.holds Try.pinned (OpenSpec.ofChange bitsApartSpec)

/-- ITS FALSE NEIGHBOUR: 'it returns false'. Refute it at one input. -/
def bitsApartWrong : ChangeSpec := { name := "bitsApart", fn := fun _ => fun
  | [d1, d2, d3] => { results := [.lit (.bool false)], args := [d1, d2, d3] }
  | _ => none }
def BitsApartWrongFalsely : Prop := bitsApartRow.holds Try.pinned (OpenSpec.ofChange bitsApartWrong)

/-- 'annalistlaw01.BitsFolds': WHATEVER THE INPUT: true; the input reads as it did. -/
def bitsFoldsSpec : ChangeSpec := { name := "bitsFolds", fn := fun _ => fun
  | [d1, d2] => { results := [.lit (.bool true)], args := [d1, d2] }
  | _ => none }
def bitsFoldsRow : OpenClaim := { program := "ytjcanclmmgfhiaa", sum := "e739121ce797c6834f6533efea7cdd00330d61f08150e5ab4c258091e3b86dfc", func := "annalist/annalistlaw01.BitsFolds", spec := "bitsFolds", apart := false }
def BitsFoldsSaid : Prop := bitsFoldsRow.holds Try.pinned (OpenSpec.ofChange bitsFoldsSpec)

/-- ITS FALSE NEIGHBOUR: 'it returns false'. Refute it at one input. -/
def bitsFoldsWrong : ChangeSpec := { name := "bitsFolds", fn := fun _ => fun
  | [d1, d2] => { results := [.lit (.bool false)], args := [d1, d2] }
  | _ => none }
def BitsFoldsWrongFalsely : Prop := bitsFoldsRow.holds Try.pinned (OpenSpec.ofChange bitsFoldsWrong)

/-- 'annalistlaw01.BitsFixes': WHATEVER THE INPUT: true; the input reads as it did. -/
def bitsFixesSpec : ChangeSpec := { name := "bitsFixes", fn := fun _ => fun
  | [d1, d2, d3] => { results := [.lit (.bool true)], args := [d1, d2, d3] }
  | _ => none }
def bitsFixesRow : OpenClaim := { program := "ytjcanclmmgfhiaa", sum := "e739121ce797c6834f6533efea7cdd00330d61f08150e5ab4c258091e3b86dfc", func := "annalist/annalistlaw01.BitsFixes", spec := "bitsFixes", apart := false }
def BitsFixesSaid : Prop := bitsFixesRow.holds Try.pinned (OpenSpec.ofChange bitsFixesSpec)

/-- ITS FALSE NEIGHBOUR: 'it returns false'. Refute it at one input. -/
def bitsFixesWrong : ChangeSpec := { name := "bitsFixes", fn := fun _ => fun
  | [d1, d2, d3] => { results := [.lit (.bool false)], args := [d1, d2, d3] }
  | _ => none }
def BitsFixesWrongFalsely : Prop := bitsFixesRow.holds Try.pinned (OpenSpec.ofChange bitsFixesWrong)

/-- 'annalistlaw01.BitsSums': WHATEVER THE INPUT: true; the input reads as it did. -/
def bitsSumsSpec : ChangeSpec := { name := "bitsSums", fn := fun _ => fun
  | [d] => { results := [.lit (.bool true)], args := [d] }
  | _ => none }
def bitsSumsRow : OpenClaim := { program := "ytjcanclmmgfhiaa", sum := "e739121ce797c6834f6533efea7cdd00330d61f08150e5ab4c258091e3b86dfc", func := "annalist/annalistlaw01.BitsSums", spec := "bitsSums", apart := false }
def BitsSumsSaid : Prop := bitsSumsRow.holds Try.pinned (OpenSpec.ofChange bitsSumsSpec)

/-- ITS FALSE NEIGHBOUR: 'it returns false'. Refute it at one input. -/
def bitsSumsWrong : ChangeSpec := { name := "bitsSums", fn := fun _ => fun
  | [d] => { results := [.lit (.bool false)], args := [d] }
  | _ => none }
def BitsSumsWrongFalsely : Prop := bitsSumsRow.holds Try.pinned (OpenSpec.ofChange bitsSumsWrong)

/-- 'annalistlaw01.BitsOrders': WHATEVER THE INPUT: true; the input reads as it did. -/
def bitsOrdersSpec : ChangeSpec := { name := "bitsOrders", fn := fun _ => fun
  | [d1, d2] => { results := [.lit (.bool true)], args := [d1, d2] }
  | _ => none }
def bitsOrdersRow : OpenClaim := { program := "ytjcanclmmgfhiaa", sum := "e739121ce797c6834f6533efea7cdd00330d61f08150e5ab4c258091e3b86dfc", func := "annalist/annalistlaw01.BitsOrders", spec := "bitsOrders", apart := false }
def BitsOrdersSaid : Prop := bitsOrdersRow.holds Try.pinned (OpenSpec.ofChange bitsOrdersSpec)

/-- ITS FALSE NEIGHBOUR: 'it returns false'. Refute it at one input. -/
def bitsOrdersWrong : ChangeSpec := { name := "bitsOrders", fn := fun _ => fun
  | [d1, d2] => { results := [.lit (.bool false)], args := [d1, d2] }
  | _ => none }
def BitsOrdersWrongFalsely : Prop := bitsOrdersRow.holds Try.pinned (OpenSpec.ofChange bitsOrdersWrong)

/-- 'annalistlaw01.BitsVars': WHATEVER THE INPUT: true; the input reads as it did. -/
def bitsVarsSpec : ChangeSpec := { name := "bitsVars", fn := fun _ => fun
  | [d1, d2] => { results := [.lit (.bool true)], args := [d1, d2] }
  | _ => none }
def bitsVarsRow : OpenClaim := { program := "ytjcanclmmgfhiaa", sum := "e739121ce797c6834f6533efea7cdd00330d61f08150e5ab4c258091e3b86dfc", func := "annalist/annalistlaw01.BitsVars", spec := "bitsVars", recurses := true, apart := false }
def BitsVarsSaid : Prop := bitsVarsRow.holds Try.pinned (OpenSpec.ofChange bitsVarsSpec)

/-- ITS FALSE NEIGHBOUR: 'it returns false'. Refute it at one input. -/
def bitsVarsWrong : ChangeSpec := { name := "bitsVars", fn := fun _ => fun
  | [d1, d2] => { results := [.lit (.bool false)], args := [d1, d2] }
  | _ => none }
def BitsVarsWrongFalsely : Prop := bitsVarsRow.holds Try.pinned (OpenSpec.ofChange bitsVarsWrong)

/-- 'annalistlaw01.BitsBack': WHATEVER THE INPUT: true; the input reads as it did. -/
def bitsBackSpec : ChangeSpec := { name := "bitsBack", fn := fun _ => fun
  | [d1, d2, d3] => { results := [.lit (.bool true)], args := [d1, d2, d3] }
  | _ => none }
def bitsBackRow : OpenClaim := { program := "ytjcanclmmgfhiaa", sum := "e739121ce797c6834f6533efea7cdd00330d61f08150e5ab4c258091e3b86dfc", func := "annalist/annalistlaw01.BitsBack", spec := "bitsBack", apart := false }
def BitsBackSaid : Prop := bitsBackRow.holds Try.pinned (OpenSpec.ofChange bitsBackSpec)

/-- ITS FALSE NEIGHBOUR: 'it returns false'. Refute it at one input. -/
def bitsBackWrong : ChangeSpec := { name := "bitsBack", fn := fun _ => fun
  | [d1, d2, d3] => { results := [.lit (.bool false)], args := [d1, d2, d3] }
  | _ => none }
def BitsBackWrongFalsely : Prop := bitsBackRow.holds Try.pinned (OpenSpec.ofChange bitsBackWrong)

/- THE SECOND FORM. 'bulk': how many values and letters a reading holds, each counted each time it is reached (what is shared counts as often as it is met; a slice's spare places count too). A statement '..UptoSaid' is the law's where the arguments, and the package variables that the reading takes, are together of bulk at most 1048576: NARROWER than '..Said'. Prove '..Said' where nothing that the law and all that it calls make is longer than what came in: it says more and counts as full. Else prove '..UptoSaid'. A law counts once. -/
mutual
def uptoBulk {H : Type} : DataW H → Nat
  | .lit (.string bytes) => bytes.length + 1
  | .lit _ => 1
  | .nil => 1
  | .ptr d => uptoBulk d + 1
  | .slice elems spare => uptoBulkAll elems + uptoBulkAll spare + 1
  | .agg parts => uptoBulkAll parts + 1
  | .iface _ d => uptoBulk d + 1
  | .map entries => uptoBulkEntries entries + 1
  | .held _ => 1
def uptoBulkAll {H : Type} : List (DataW H) → Nat
  | [] => 0
  | d :: r => uptoBulk d + uptoBulkAll r
def uptoBulkEntries {H : Type} : List (Lit × DataW H) → Nat
  | [] => 0
  | x :: r => uptoBulkEntry x + uptoBulkEntries r
def uptoBulkEntry {H : Type} : Lit × DataW H → Nat
  | (.string bytes, d) => bytes.length + uptoBulk d + 1
  | (_, d) => uptoBulk d + 1
 end
def uptoSmall : (H : Type) → List (DataW H) → Bool := fun _ ds => decide (uptoBulkAll ds ≤ 1048576)
def OpenSpec.upto (s : _root_.Go.ChangeSpec) : _root_.Go.OpenSpec := { _root_.Go.OpenSpec.ofChange s with cond := some uptoSmall }

/-- 'annalistlaw01.BitsRises', WHERE WHAT IT READS IS OF BULK AT MOST 1048576: true; the input reads as it did. -/
def bitsRisesUptoRow : OpenClaim := { program := "ytjcanclmmgfhiaa", sum := "e739121ce797c6834f6533efea7cdd00330d61f08150e5ab4c258091e3b86dfc", func := "annalist/annalistlaw01.BitsRises", spec := "bitsRises", apart := false, narrowed := true }
def BitsRisesUptoSaid : Prop := bitsRisesUptoRow.holds Try.pinned (OpenSpec.upto bitsRisesSpec)

/-- 'annalistlaw01.BitsApart', WHERE WHAT IT READS IS OF BULK AT MOST 1048576: true; the input reads as it did. -/
def bitsApartUptoRow : OpenClaim := { program := "ytjcanclmmgfhiaa", sum := "e739121ce797c6834f6533efea7cdd00330d61f08150e5ab4c258091e3b86dfc", func := "annalist/annalistlaw01.BitsApart", spec := "bitsApart", apart := false, narrowed := true }
def BitsApartUptoSaid : Prop := bitsApartUptoRow.holds Try.pinned (OpenSpec.upto bitsApartSpec)

/-- 'annalistlaw01.BitsFolds', WHERE WHAT IT READS IS OF BULK AT MOST 1048576: true; the input reads as it did. -/
def bitsFoldsUptoRow : OpenClaim := { program := "ytjcanclmmgfhiaa", sum := "e739121ce797c6834f6533efea7cdd00330d61f08150e5ab4c258091e3b86dfc", func := "annalist/annalistlaw01.BitsFolds", spec := "bitsFolds", apart := false, narrowed := true }
def BitsFoldsUptoSaid : Prop := bitsFoldsUptoRow.holds Try.pinned (OpenSpec.upto bitsFoldsSpec)

/-- 'annalistlaw01.BitsFixes', WHERE WHAT IT READS IS OF BULK AT MOST 1048576: true; the input reads as it did. -/
def bitsFixesUptoRow : OpenClaim := { program := "ytjcanclmmgfhiaa", sum := "e739121ce797c6834f6533efea7cdd00330d61f08150e5ab4c258091e3b86dfc", func := "annalist/annalistlaw01.BitsFixes", spec := "bitsFixes", apart := false, narrowed := true }
def BitsFixesUptoSaid : Prop := bitsFixesUptoRow.holds Try.pinned (OpenSpec.upto bitsFixesSpec)

/-- 'annalistlaw01.BitsSums', WHERE WHAT IT READS IS OF BULK AT MOST 1048576: true; the input reads as it did. -/
def bitsSumsUptoRow : OpenClaim := { program := "ytjcanclmmgfhiaa", sum := "e739121ce797c6834f6533efea7cdd00330d61f08150e5ab4c258091e3b86dfc", func := "annalist/annalistlaw01.BitsSums", spec := "bitsSums", apart := false, narrowed := true }
def BitsSumsUptoSaid : Prop := bitsSumsUptoRow.holds Try.pinned (OpenSpec.upto bitsSumsSpec)

/-- 'annalistlaw01.BitsOrders', WHERE WHAT IT READS IS OF BULK AT MOST 1048576: true; the input reads as it did. -/
def bitsOrdersUptoRow : OpenClaim := { program := "ytjcanclmmgfhiaa", sum := "e739121ce797c6834f6533efea7cdd00330d61f08150e5ab4c258091e3b86dfc", func := "annalist/annalistlaw01.BitsOrders", spec := "bitsOrders", apart := false, narrowed := true }
def BitsOrdersUptoSaid : Prop := bitsOrdersUptoRow.holds Try.pinned (OpenSpec.upto bitsOrdersSpec)

/-- 'annalistlaw01.BitsVars', WHERE WHAT IT READS IS OF BULK AT MOST 1048576: true; the input reads as it did. -/
def bitsVarsUptoRow : OpenClaim := { program := "ytjcanclmmgfhiaa", sum := "e739121ce797c6834f6533efea7cdd00330d61f08150e5ab4c258091e3b86dfc", func := "annalist/annalistlaw01.BitsVars", spec := "bitsVars", recurses := true, apart := false, narrowed := true }
def BitsVarsUptoSaid : Prop := bitsVarsUptoRow.holds Try.pinned (OpenSpec.upto bitsVarsSpec)

/-- 'annalistlaw01.BitsBack', WHERE WHAT IT READS IS OF BULK AT MOST 1048576: true; the input reads as it did. -/
def bitsBackUptoRow : OpenClaim := { program := "ytjcanclmmgfhiaa", sum := "e739121ce797c6834f6533efea7cdd00330d61f08150e5ab4c258091e3b86dfc", func := "annalist/annalistlaw01.BitsBack", spec := "bitsBack", apart := false, narrowed := true }
def BitsBackUptoSaid : Prop := bitsBackUptoRow.holds Try.pinned (OpenSpec.upto bitsBackSpec)

end Rows
end Go.Proofs.Ytjcanclmmgfhiaa
