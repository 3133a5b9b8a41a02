/-
  DERIVED. GIVEN WITH THE SEED: THE CARDS: each row of YteilkcdbdpkbfaaDoorRows.lean that lists a variable, with what it lists TIED to the program's text (the seventh form; the later family's looks); each row that meets fmt, with fmt's text TOLD by the authors' own Lean function (tested against real Go, not proved from fmt's source: count such statements apart). THE CARD IS WHAT COUNTS. Prove the row's statement (the work); the ties are given (YteilkcdbdpkbfaaDoorTie.lean); close each card by the builder's one call (the guide's Derived/Test/ToyasCard.lean, 'card_holds'). Laid BY PROGRAM, IN A SANDBOX (cutbox-door.mjs). By AI agents, Wed Nov 11 2026. No macro, syntax, notation, axiom, sorry.
-/
import Derived.Test.YteilkcdbdpkbfaaDoorRows
import GoSem.ClaimSeven
namespace Go.Proofs.YteilkcdbdpkbfaaDoor
namespace Rows

/-- THE TIED CARD OF 'annalistlaw19.QueryPrints'. -/
def queryPrintsCard : Claim7 := { stood := { row := queryPrintsRow, standIns := [], harness := (true, "95201100b90d23e864d10c69b3da32f70030d937e4d7b485caf5136514669ad6"), looks := true }, kinds := [], alts := [], laidByText := true, laidKinds := [.data, .data, .data, .listed, .data], laidTests := true, laidLooks := .later }
def QueryPrintsCardSaid : Prop := Claim7.holds Tryd.pinned (.plain (OpenSpec.ofChange queryPrintsSpec)) queryPrintsCard

/-- THE TIED CARD OF 'annalistlaw19.QueryBack'. -/
def queryBackCard : Claim7 := { stood := { row := queryBackRow, standIns := [], harness := (true, "95201100b90d23e864d10c69b3da32f70030d937e4d7b485caf5136514669ad6"), looks := true }, kinds := [], alts := [], laidByText := true, laidKinds := [.data, .data, .data, .listed, .data], laidTests := true, laidLooks := .later }
def QueryBackCardSaid : Prop := Claim7.holds Tryd.pinned (.plain (OpenSpec.ofChange queryBackSpec)) queryBackCard

/-- THE TIED CARD OF 'annalistlaw19.QueryGroups'. -/
def queryGroupsCard : Claim7 := { stood := { row := queryGroupsRow, standIns := [], harness := (true, "95201100b90d23e864d10c69b3da32f70030d937e4d7b485caf5136514669ad6"), looks := true }, kinds := [], alts := [], laidByText := true, laidKinds := [.data, .data, .data, .listed, .data], laidTests := true, laidLooks := .later }
def QueryGroupsCardSaid : Prop := Claim7.holds Tryd.pinned (.plain (OpenSpec.ofChange queryGroupsSpec)) queryGroupsCard

/-- THE TIED CARD OF 'annalistlaw19.QuerySame'. -/
def querySameCard : Claim7 := { stood := { row := querySameRow, standIns := [], harness := (true, "95201100b90d23e864d10c69b3da32f70030d937e4d7b485caf5136514669ad6"), looks := true }, kinds := [], alts := [], laidByText := true, laidKinds := [.data, .data, .data, .listed, .data], laidTests := true, laidLooks := .later }
def QuerySameCardSaid : Prop := Claim7.holds Tryd.pinned (.plain (OpenSpec.ofChange querySameSpec)) querySameCard

/-- THE TIED CARD OF 'annalistlaw19.QueryTails'. -/
def queryTailsCard : Claim7 := { stood := { row := queryTailsRow, standIns := [], harness := (true, "95201100b90d23e864d10c69b3da32f70030d937e4d7b485caf5136514669ad6"), looks := true }, kinds := [], alts := [], laidByText := true, laidKinds := [.data, .data, .data, .listed, .data], laidTests := true, laidLooks := .later }
def QueryTailsCardSaid : Prop := Claim7.holds Tryd.pinned (.plain (OpenSpec.ofChange queryTailsSpec)) queryTailsCard

/-- THE SECOND FORM's CARD OF 'annalistlaw19.QueryPrints'. -/
def queryPrintsUptoCard : Claim7 := { stood := { row := queryPrintsUptoRow, standIns := [], harness := (true, "95201100b90d23e864d10c69b3da32f70030d937e4d7b485caf5136514669ad6"), looks := true }, kinds := [], alts := [], laidByText := true, laidKinds := [.data, .data, .data, .listed, .data], laidTests := true, laidLooks := .later }
def QueryPrintsUptoCardSaid : Prop := Claim7.holds Tryd.pinned (.plain (OpenSpec.upto queryPrintsSpec)) queryPrintsUptoCard

/-- THE SECOND FORM's CARD OF 'annalistlaw19.QueryBack'. -/
def queryBackUptoCard : Claim7 := { stood := { row := queryBackUptoRow, standIns := [], harness := (true, "95201100b90d23e864d10c69b3da32f70030d937e4d7b485caf5136514669ad6"), looks := true }, kinds := [], alts := [], laidByText := true, laidKinds := [.data, .data, .data, .listed, .data], laidTests := true, laidLooks := .later }
def QueryBackUptoCardSaid : Prop := Claim7.holds Tryd.pinned (.plain (OpenSpec.upto queryBackSpec)) queryBackUptoCard

/-- THE SECOND FORM's CARD OF 'annalistlaw19.QueryGroups'. -/
def queryGroupsUptoCard : Claim7 := { stood := { row := queryGroupsUptoRow, standIns := [], harness := (true, "95201100b90d23e864d10c69b3da32f70030d937e4d7b485caf5136514669ad6"), looks := true }, kinds := [], alts := [], laidByText := true, laidKinds := [.data, .data, .data, .listed, .data], laidTests := true, laidLooks := .later }
def QueryGroupsUptoCardSaid : Prop := Claim7.holds Tryd.pinned (.plain (OpenSpec.upto queryGroupsSpec)) queryGroupsUptoCard

/-- THE SECOND FORM's CARD OF 'annalistlaw19.QuerySame'. -/
def querySameUptoCard : Claim7 := { stood := { row := querySameUptoRow, standIns := [], harness := (true, "95201100b90d23e864d10c69b3da32f70030d937e4d7b485caf5136514669ad6"), looks := true }, kinds := [], alts := [], laidByText := true, laidKinds := [.data, .data, .data, .listed, .data], laidTests := true, laidLooks := .later }
def QuerySameUptoCardSaid : Prop := Claim7.holds Tryd.pinned (.plain (OpenSpec.upto querySameSpec)) querySameUptoCard

/-- THE SECOND FORM's CARD OF 'annalistlaw19.QueryTails'. -/
def queryTailsUptoCard : Claim7 := { stood := { row := queryTailsUptoRow, standIns := [], harness := (true, "95201100b90d23e864d10c69b3da32f70030d937e4d7b485caf5136514669ad6"), looks := true }, kinds := [], alts := [], laidByText := true, laidKinds := [.data, .data, .data, .listed, .data], laidTests := true, laidLooks := .later }
def QueryTailsUptoCardSaid : Prop := Claim7.holds Tryd.pinned (.plain (OpenSpec.upto queryTailsSpec)) queryTailsUptoCard
end Rows
end Go.Proofs.YteilkcdbdpkbfaaDoor
