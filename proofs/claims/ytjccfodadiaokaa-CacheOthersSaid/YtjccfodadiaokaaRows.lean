/-
  No cell of these rows narrows 'for every input' (looked for: loops, veiled, ifaces, maps, wideKeys, modest, calm, conditions, laid).
  DERIVED. THE GIVEN ROWS OF THIS SEAT. 6 by the template 'for every input the law returns true; each argument reads behind the call as it read before'; 0 by the template 'total and deterministic' (their statements: YtjccfodadiaokaaTotals.lean).
  GIVEN WITH THE SEED: the statements are not yours to turn. If you find one false, say at which input.
  Laid BY PROGRAM, IN A SANDBOX (cutbox-rows.mjs): the forced cells as the released guide's own fill.sh prints them over the translation 08dd4b156bcd499f… (all of the seat's roots in one cut). By AI agents, Wed Nov 11 2026. No macro, syntax, notation, axiom, sorry.
-/
import Derived.Test.YtjccfodadiaokaaChecked
import GoSem.Claim
import GoSem.ClaimJoined
import GoSem.ClaimMapViews
import Derived.JoinedTies
import Derived.KernelRfl
namespace Go.Proofs.Ytjccfodadiaokaa
/- THE CELL 'sum', in the pinned program and in every row, IS THE sha256 OF THE DUMP (.gsa) THAT YtjccfodadiaokaaProg.lean LOADS. Nothing in Lean hashes anything: it is a label: what it is worth is what the hold of that sum in a sandbox is worth. -/
noncomputable def Try.pinned : Pinned := { name := "ytjccfodadiaokaa", sum := "08dd4b156bcd499f37bc0122a745c108a1fce24c5dc772e5cd1b84ed11a07abd", checked := Try.checked }
namespace Rows
def none {H : Type} : Left H := { results := [], args := [] }

/-- 'annalistlaw06.CachePins': WHATEVER THE INPUT: true; the input reads as it did. -/
def cachePinsSpec : ChangeSpec := { name := "cachePins", fn := fun _ => fun
  | [d1, d2] => { results := [.lit (.bool true)], args := [d1, d2] }
  | _ => none }
def cachePinsRow : OpenClaim := { program := "ytjccfodadiaokaa", sum := "08dd4b156bcd499f37bc0122a745c108a1fce24c5dc772e5cd1b84ed11a07abd", func := "annalist/annalistlaw06.CachePins", spec := "cachePins", inPlace := ["slices.overlaps[annalist/cache.item[int, string]]"], unfollowed := true, recurses := true, apart := false }
def CachePinsSaid : Prop := cachePinsRow.holds Try.pinned (OpenSpec.ofChange cachePinsSpec)

/-- ITS FALSE NEIGHBOUR: 'it returns false'. Refute it at one input. -/
def cachePinsWrong : ChangeSpec := { name := "cachePins", fn := fun _ => fun
  | [d1, d2] => { results := [.lit (.bool false)], args := [d1, d2] }
  | _ => none }
def CachePinsWrongFalsely : Prop := cachePinsRow.holds Try.pinned (OpenSpec.ofChange cachePinsWrong)

/-- 'annalistlaw06.CacheLast': WHATEVER THE INPUT: true; the input reads as it did. -/
def cacheLastSpec : ChangeSpec := { name := "cacheLast", fn := fun _ => fun
  | [d1, d2] => { results := [.lit (.bool true)], args := [d1, d2] }
  | _ => none }
def cacheLastRow : OpenClaim := { program := "ytjccfodadiaokaa", sum := "08dd4b156bcd499f37bc0122a745c108a1fce24c5dc772e5cd1b84ed11a07abd", func := "annalist/annalistlaw06.CacheLast", spec := "cacheLast", inPlace := ["slices.overlaps[annalist/cache.item[int, string]]"], unfollowed := true, recurses := true, apart := false }
def CacheLastSaid : Prop := cacheLastRow.holds Try.pinned (OpenSpec.ofChange cacheLastSpec)

/-- ITS FALSE NEIGHBOUR: 'it returns false'. Refute it at one input. -/
def cacheLastWrong : ChangeSpec := { name := "cacheLast", fn := fun _ => fun
  | [d1, d2] => { results := [.lit (.bool false)], args := [d1, d2] }
  | _ => none }
def CacheLastWrongFalsely : Prop := cacheLastRow.holds Try.pinned (OpenSpec.ofChange cacheLastWrong)

/-- 'annalistlaw06.CacheOthers': WHATEVER THE INPUT: true; the input reads as it did. -/
def cacheOthersSpec : ChangeSpec := { name := "cacheOthers", fn := fun _ => fun
  | [d1, d2] => { results := [.lit (.bool true)], args := [d1, d2] }
  | _ => none }
def cacheOthersRow : OpenClaim := { program := "ytjccfodadiaokaa", sum := "08dd4b156bcd499f37bc0122a745c108a1fce24c5dc772e5cd1b84ed11a07abd", func := "annalist/annalistlaw06.CacheOthers", spec := "cacheOthers", inPlace := ["slices.overlaps[annalist/cache.item[string, int]]", "slices.overlaps[annalist/cache.item[int, string]]"], unfollowed := true, recurses := true, apart := false }
def CacheOthersSaid : Prop := cacheOthersRow.holds Try.pinned (OpenSpec.ofChange cacheOthersSpec)

/-- ITS FALSE NEIGHBOUR: 'it returns false'. Refute it at one input. -/
def cacheOthersWrong : ChangeSpec := { name := "cacheOthers", fn := fun _ => fun
  | [d1, d2] => { results := [.lit (.bool false)], args := [d1, d2] }
  | _ => none }
def CacheOthersWrongFalsely : Prop := cacheOthersRow.holds Try.pinned (OpenSpec.ofChange cacheOthersWrong)

/-- 'annalistlaw06.CacheOldest': WHATEVER THE INPUT: true; the input reads as it did. -/
def cacheOldestSpec : ChangeSpec := { name := "cacheOldest", fn := fun _ => fun
  | [d1, d2, d3] => { results := [.lit (.bool true)], args := [d1, d2, d3] }
  | _ => none }
def cacheOldestRow : OpenClaim := { program := "ytjccfodadiaokaa", sum := "08dd4b156bcd499f37bc0122a745c108a1fce24c5dc772e5cd1b84ed11a07abd", func := "annalist/annalistlaw06.CacheOldest", spec := "cacheOldest", inPlace := ["slices.overlaps[annalist/cache.item[int, string]]"], unfollowed := true, recurses := true, apart := false }
def CacheOldestSaid : Prop := cacheOldestRow.holds Try.pinned (OpenSpec.ofChange cacheOldestSpec)

/-- ITS FALSE NEIGHBOUR: 'it returns false'. Refute it at one input. -/
def cacheOldestWrong : ChangeSpec := { name := "cacheOldest", fn := fun _ => fun
  | [d1, d2, d3] => { results := [.lit (.bool false)], args := [d1, d2, d3] }
  | _ => none }
def CacheOldestWrongFalsely : Prop := cacheOldestRow.holds Try.pinned (OpenSpec.ofChange cacheOldestWrong)

/-- 'annalistlaw06.CachePlays': WHATEVER THE INPUT: true; the input reads as it did. -/
def cachePlaysSpec : ChangeSpec := { name := "cachePlays", fn := fun _ => fun
  | [d1, d2] => { results := [.lit (.bool true)], args := [d1, d2] }
  | _ => none }
def cachePlaysRow : OpenClaim := { program := "ytjccfodadiaokaa", sum := "08dd4b156bcd499f37bc0122a745c108a1fce24c5dc772e5cd1b84ed11a07abd", func := "annalist/annalistlaw06.CachePlays", spec := "cachePlays", inPlace := ["slices.overlaps[annalist/cache.item[int, string]]"], unfollowed := true, recurses := true, apart := false }
def CachePlaysSaid : Prop := cachePlaysRow.holds Try.pinned (OpenSpec.ofChange cachePlaysSpec)

/-- ITS FALSE NEIGHBOUR: 'it returns false'. Refute it at one input. -/
def cachePlaysWrong : ChangeSpec := { name := "cachePlays", fn := fun _ => fun
  | [d1, d2] => { results := [.lit (.bool false)], args := [d1, d2] }
  | _ => none }
def CachePlaysWrongFalsely : Prop := cachePlaysRow.holds Try.pinned (OpenSpec.ofChange cachePlaysWrong)

/-- 'annalistlaw06.CacheNobody': WHATEVER THE INPUT: true; the input reads as it did. -/
def cacheNobodySpec : ChangeSpec := { name := "cacheNobody", fn := fun _ => fun
  | [d] => { results := [.lit (.bool true)], args := [d] }
  | _ => none }
def cacheNobodyRow : OpenClaim := { program := "ytjccfodadiaokaa", sum := "08dd4b156bcd499f37bc0122a745c108a1fce24c5dc772e5cd1b84ed11a07abd", func := "annalist/annalistlaw06.CacheNobody", spec := "cacheNobody", inPlace := ["slices.overlaps[annalist/cache.item[int, string]]"], unfollowed := true, recurses := true, apart := false }
def CacheNobodySaid : Prop := cacheNobodyRow.holds Try.pinned (OpenSpec.ofChange cacheNobodySpec)

/-- ITS FALSE NEIGHBOUR: 'it returns false'. Refute it at one input. -/
def cacheNobodyWrong : ChangeSpec := { name := "cacheNobody", fn := fun _ => fun
  | [d] => { results := [.lit (.bool false)], args := [d] }
  | _ => none }
def CacheNobodyWrongFalsely : Prop := cacheNobodyRow.holds Try.pinned (OpenSpec.ofChange cacheNobodyWrong)

/- THE SECOND FORM. 'bulk': how many values and letters a reading holds, each counted each time it is reached (what is shared counts as often as it is met; a slice's spare places count too). A statement '..UptoSaid' is the law's where the arguments, and the package variables that the reading takes, are together of bulk at most 1048576: NARROWER than '..Said'. Prove '..Said' where nothing that the law and all that it calls make is longer than what came in: it says more and counts as full. Else prove '..UptoSaid'. A law counts once. -/
mutual
def uptoBulk {H : Type} : DataW H → Nat
  | .lit (.string bytes) => bytes.length + 1
  | .lit _ => 1
  | .nil => 1
  | .ptr d => uptoBulk d + 1
  | .slice elems spare => uptoBulkAll elems + uptoBulkAll spare + 1
  | .agg parts => uptoBulkAll parts + 1
  | .iface _ d => uptoBulk d + 1
  | .map entries => uptoBulkEntries entries + 1
  | .held _ => 1
def uptoBulkAll {H : Type} : List (DataW H) → Nat
  | [] => 0
  | d :: r => uptoBulk d + uptoBulkAll r
def uptoBulkEntries {H : Type} : List (Lit × DataW H) → Nat
  | [] => 0
  | x :: r => uptoBulkEntry x + uptoBulkEntries r
def uptoBulkEntry {H : Type} : Lit × DataW H → Nat
  | (.string bytes, d) => bytes.length + uptoBulk d + 1
  | (_, d) => uptoBulk d + 1
 end
def uptoSmall : (H : Type) → List (DataW H) → Bool := fun _ ds => decide (uptoBulkAll ds ≤ 1048576)
def OpenSpec.upto (s : _root_.Go.ChangeSpec) : _root_.Go.OpenSpec := { _root_.Go.OpenSpec.ofChange s with cond := some uptoSmall }

/-- 'annalistlaw06.CachePins', WHERE WHAT IT READS IS OF BULK AT MOST 1048576: true; the input reads as it did. -/
def cachePinsUptoRow : OpenClaim := { program := "ytjccfodadiaokaa", sum := "08dd4b156bcd499f37bc0122a745c108a1fce24c5dc772e5cd1b84ed11a07abd", func := "annalist/annalistlaw06.CachePins", spec := "cachePins", inPlace := ["slices.overlaps[annalist/cache.item[int, string]]"], unfollowed := true, recurses := true, apart := false, narrowed := true }
def CachePinsUptoSaid : Prop := cachePinsUptoRow.holds Try.pinned (OpenSpec.upto cachePinsSpec)

/-- 'annalistlaw06.CacheLast', WHERE WHAT IT READS IS OF BULK AT MOST 1048576: true; the input reads as it did. -/
def cacheLastUptoRow : OpenClaim := { program := "ytjccfodadiaokaa", sum := "08dd4b156bcd499f37bc0122a745c108a1fce24c5dc772e5cd1b84ed11a07abd", func := "annalist/annalistlaw06.CacheLast", spec := "cacheLast", inPlace := ["slices.overlaps[annalist/cache.item[int, string]]"], unfollowed := true, recurses := true, apart := false, narrowed := true }
def CacheLastUptoSaid : Prop := cacheLastUptoRow.holds Try.pinned (OpenSpec.upto cacheLastSpec)

/-- 'annalistlaw06.CacheOthers', WHERE WHAT IT READS IS OF BULK AT MOST 1048576: true; the input reads as it did. -/
def cacheOthersUptoRow : OpenClaim := { program := "ytjccfodadiaokaa", sum := "08dd4b156bcd499f37bc0122a745c108a1fce24c5dc772e5cd1b84ed11a07abd", func := "annalist/annalistlaw06.CacheOthers", spec := "cacheOthers", inPlace := ["slices.overlaps[annalist/cache.item[string, int]]", "slices.overlaps[annalist/cache.item[int, string]]"], unfollowed := true, recurses := true, apart := false, narrowed := true }
def CacheOthersUptoSaid : Prop := cacheOthersUptoRow.holds Try.pinned (OpenSpec.upto cacheOthersSpec)

/-- 'annalistlaw06.CacheOldest', WHERE WHAT IT READS IS OF BULK AT MOST 1048576: true; the input reads as it did. -/
def cacheOldestUptoRow : OpenClaim := { program := "ytjccfodadiaokaa", sum := "08dd4b156bcd499f37bc0122a745c108a1fce24c5dc772e5cd1b84ed11a07abd", func := "annalist/annalistlaw06.CacheOldest", spec := "cacheOldest", inPlace := ["slices.overlaps[annalist/cache.item[int, string]]"], unfollowed := true, recurses := true, apart := false, narrowed := true }
def CacheOldestUptoSaid : Prop := cacheOldestUptoRow.holds Try.pinned (OpenSpec.upto cacheOldestSpec)

/-- 'annalistlaw06.CachePlays', WHERE WHAT IT READS IS OF BULK AT MOST 1048576: true; the input reads as it did. -/
def cachePlaysUptoRow : OpenClaim := { program := "ytjccfodadiaokaa", sum := "08dd4b156bcd499f37bc0122a745c108a1fce24c5dc772e5cd1b84ed11a07abd", func := "annalist/annalistlaw06.CachePlays", spec := "cachePlays", inPlace := ["slices.overlaps[annalist/cache.item[int, string]]"], unfollowed := true, recurses := true, apart := false, narrowed := true }
def CachePlaysUptoSaid : Prop := cachePlaysUptoRow.holds Try.pinned (OpenSpec.upto cachePlaysSpec)

/-- 'annalistlaw06.CacheNobody', WHERE WHAT IT READS IS OF BULK AT MOST 1048576: true; the input reads as it did. -/
def cacheNobodyUptoRow : OpenClaim := { program := "ytjccfodadiaokaa", sum := "08dd4b156bcd499f37bc0122a745c108a1fce24c5dc772e5cd1b84ed11a07abd", func := "annalist/annalistlaw06.CacheNobody", spec := "cacheNobody", inPlace := ["slices.overlaps[annalist/cache.item[int, string]]"], unfollowed := true, recurses := true, apart := false, narrowed := true }
def CacheNobodyUptoSaid : Prop := cacheNobodyUptoRow.holds Try.pinned (OpenSpec.upto cacheNobodySpec)

end Rows
end Go.Proofs.Ytjccfodadiaokaa
