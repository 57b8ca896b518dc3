/-
  DERIVED. GIVEN WITH THE SEED: THE CARDS: each row of YtefobboakikpbaaDoorRows.lean that lists a variable, with what it lists TIED to the program's text (the seventh form; the later family's looks); each row that meets fmt, with fmt's text TOLD by the authors' own Lean function (tested against real Go, not proved from fmt's source: count such statements apart). THE CARD IS WHAT COUNTS. Prove the row's statement (the work); the ties are given (YtefobboakikpbaaDoorTie.lean); close each card by the builder's one call (the guide's Derived/Test/ToyasCard.lean, 'card_holds'). Laid BY PROGRAM, IN A SANDBOX (cutbox-door.mjs). By AI agents, Wed Nov 11 2026. No macro, syntax, notation, axiom, sorry.
-/
import Derived.Test.YtefobboakikpbaaDoorRows
import GoSem.ClaimSeven
namespace Go.Proofs.YtefobboakikpbaaDoor
namespace Rows

/-- THE TIED CARD OF 'twinelaw2.SumMillion'. -/
def sumMillionCard : Claim7 := { stood := { row := sumMillionRow, standIns := [], harness := (true, "1686c096d4e0eef1abc860b8d3f0bc962bae7ee043c09e7c20fd2becfcc42361"), looks := false }, kinds := [], alts := [], laidByText := true, laidKinds := [.data, .data], laidTests := true, laidLooks := .later }
def SumMillionCardSaid : Prop := Claim7.holds Tryd.pinned (.plain (OpenSpec.ofChange sumMillionSpec)) sumMillionCard

/-- THE TIED CARD OF 'twinelaw2.SumPlays'. -/
def sumPlaysCard : Claim7 := { stood := { row := sumPlaysRow, standIns := [], harness := (true, "1686c096d4e0eef1abc860b8d3f0bc962bae7ee043c09e7c20fd2becfcc42361"), looks := false }, kinds := [], alts := [], laidByText := true, laidKinds := [.data, .data], laidTests := true, laidLooks := .later }
def SumPlaysCardSaid : Prop := Claim7.holds Tryd.pinned (.plain (OpenSpec.ofChange sumPlaysSpec)) sumPlaysCard

/-- THE TIED CARD OF 'twinelaw2.SumSHAs'. -/
def sumSHAsCard : Claim7 := { stood := { row := sumSHAsRow, standIns := [], harness := (true, "1686c096d4e0eef1abc860b8d3f0bc962bae7ee043c09e7c20fd2becfcc42361"), looks := false }, kinds := [], alts := [], laidByText := true, laidKinds := [.data, .data], laidTests := true, laidLooks := .later }
def SumSHAsCardSaid : Prop := Claim7.holds Tryd.pinned (.plain (OpenSpec.ofChange sumSHAsSpec)) sumSHAsCard

/-- THE TIED CARD OF 'twinelaw2.SumBytes'. -/
def sumBytesCard : Claim7 := { stood := { row := sumBytesRow, standIns := [], harness := (true, "1686c096d4e0eef1abc860b8d3f0bc962bae7ee043c09e7c20fd2becfcc42361"), looks := false }, kinds := [], alts := [], laidByText := true, laidKinds := [.data, .data, .data], laidTests := true, laidLooks := .later }
def SumBytesCardSaid : Prop := Claim7.holds Tryd.pinned (.plain (OpenSpec.ofChange sumBytesSpec)) sumBytesCard

/-- THE TIED CARD OF 'twinelaw2.SumDamage'. -/
def sumDamageCard : Claim7 := { stood := { row := sumDamageRow, standIns := [], harness := (true, "1686c096d4e0eef1abc860b8d3f0bc962bae7ee043c09e7c20fd2becfcc42361"), looks := false }, kinds := [], alts := [], laidByText := true, laidKinds := [.data, .data, .data], laidTests := true, laidLooks := .later }
def SumDamageCardSaid : Prop := Claim7.holds Tryd.pinned (.plain (OpenSpec.ofChange sumDamageSpec)) sumDamageCard

/-- THE TIED CARD OF 'twinelaw2.SumXor'. -/
def sumXorCard : Claim7 := { stood := { row := sumXorRow, standIns := [], harness := (true, "1686c096d4e0eef1abc860b8d3f0bc962bae7ee043c09e7c20fd2becfcc42361"), looks := false }, kinds := [], alts := [], laidByText := true, laidKinds := [.data, .data, .data], laidTests := true, laidLooks := .later }
def SumXorCardSaid : Prop := Claim7.holds Tryd.pinned (.plain (OpenSpec.ofChange sumXorSpec)) sumXorCard

/-- THE TIED CARD OF 'twinelaw2.SumParts'. -/
def sumPartsCard : Claim7 := { stood := { row := sumPartsRow, standIns := [], harness := (true, "1686c096d4e0eef1abc860b8d3f0bc962bae7ee043c09e7c20fd2becfcc42361"), looks := false }, kinds := [], alts := [], laidByText := true, laidKinds := [.data, .data, .data], laidTests := true, laidLooks := .later }
def SumPartsCardSaid : Prop := Claim7.holds Tryd.pinned (.plain (OpenSpec.ofChange sumPartsSpec)) sumPartsCard

/-- THE TIED CARD OF 'twinelaw2.SumLong'. -/
def sumLongCard : Claim7 := { stood := { row := sumLongRow, standIns := [], harness := (true, "1686c096d4e0eef1abc860b8d3f0bc962bae7ee043c09e7c20fd2becfcc42361"), looks := false }, kinds := [], alts := [], laidByText := true, laidKinds := [.data, .data, .data], laidTests := true, laidLooks := .later }
def SumLongCardSaid : Prop := Claim7.holds Tryd.pinned (.plain (OpenSpec.ofChange sumLongSpec)) sumLongCard

/-- THE SECOND FORM's CARD OF 'twinelaw2.SumMillion'. -/
def sumMillionUptoCard : Claim7 := { stood := { row := sumMillionUptoRow, standIns := [], harness := (true, "1686c096d4e0eef1abc860b8d3f0bc962bae7ee043c09e7c20fd2becfcc42361"), looks := false }, kinds := [], alts := [], laidByText := true, laidKinds := [.data, .data], laidTests := true, laidLooks := .later }
def SumMillionUptoCardSaid : Prop := Claim7.holds Tryd.pinned (.plain (OpenSpec.upto sumMillionSpec)) sumMillionUptoCard

/-- THE SECOND FORM's CARD OF 'twinelaw2.SumPlays'. -/
def sumPlaysUptoCard : Claim7 := { stood := { row := sumPlaysUptoRow, standIns := [], harness := (true, "1686c096d4e0eef1abc860b8d3f0bc962bae7ee043c09e7c20fd2becfcc42361"), looks := false }, kinds := [], alts := [], laidByText := true, laidKinds := [.data, .data], laidTests := true, laidLooks := .later }
def SumPlaysUptoCardSaid : Prop := Claim7.holds Tryd.pinned (.plain (OpenSpec.upto sumPlaysSpec)) sumPlaysUptoCard

/-- THE SECOND FORM's CARD OF 'twinelaw2.SumSHAs'. -/
def sumSHAsUptoCard : Claim7 := { stood := { row := sumSHAsUptoRow, standIns := [], harness := (true, "1686c096d4e0eef1abc860b8d3f0bc962bae7ee043c09e7c20fd2becfcc42361"), looks := false }, kinds := [], alts := [], laidByText := true, laidKinds := [.data, .data], laidTests := true, laidLooks := .later }
def SumSHAsUptoCardSaid : Prop := Claim7.holds Tryd.pinned (.plain (OpenSpec.upto sumSHAsSpec)) sumSHAsUptoCard

/-- THE SECOND FORM's CARD OF 'twinelaw2.SumBytes'. -/
def sumBytesUptoCard : Claim7 := { stood := { row := sumBytesUptoRow, standIns := [], harness := (true, "1686c096d4e0eef1abc860b8d3f0bc962bae7ee043c09e7c20fd2becfcc42361"), looks := false }, kinds := [], alts := [], laidByText := true, laidKinds := [.data, .data, .data], laidTests := true, laidLooks := .later }
def SumBytesUptoCardSaid : Prop := Claim7.holds Tryd.pinned (.plain (OpenSpec.upto sumBytesSpec)) sumBytesUptoCard

/-- THE SECOND FORM's CARD OF 'twinelaw2.SumDamage'. -/
def sumDamageUptoCard : Claim7 := { stood := { row := sumDamageUptoRow, standIns := [], harness := (true, "1686c096d4e0eef1abc860b8d3f0bc962bae7ee043c09e7c20fd2becfcc42361"), looks := false }, kinds := [], alts := [], laidByText := true, laidKinds := [.data, .data, .data], laidTests := true, laidLooks := .later }
def SumDamageUptoCardSaid : Prop := Claim7.holds Tryd.pinned (.plain (OpenSpec.upto sumDamageSpec)) sumDamageUptoCard

/-- THE SECOND FORM's CARD OF 'twinelaw2.SumXor'. -/
def sumXorUptoCard : Claim7 := { stood := { row := sumXorUptoRow, standIns := [], harness := (true, "1686c096d4e0eef1abc860b8d3f0bc962bae7ee043c09e7c20fd2becfcc42361"), looks := false }, kinds := [], alts := [], laidByText := true, laidKinds := [.data, .data, .data], laidTests := true, laidLooks := .later }
def SumXorUptoCardSaid : Prop := Claim7.holds Tryd.pinned (.plain (OpenSpec.upto sumXorSpec)) sumXorUptoCard

/-- THE SECOND FORM's CARD OF 'twinelaw2.SumParts'. -/
def sumPartsUptoCard : Claim7 := { stood := { row := sumPartsUptoRow, standIns := [], harness := (true, "1686c096d4e0eef1abc860b8d3f0bc962bae7ee043c09e7c20fd2becfcc42361"), looks := false }, kinds := [], alts := [], laidByText := true, laidKinds := [.data, .data, .data], laidTests := true, laidLooks := .later }
def SumPartsUptoCardSaid : Prop := Claim7.holds Tryd.pinned (.plain (OpenSpec.upto sumPartsSpec)) sumPartsUptoCard

/-- THE SECOND FORM's CARD OF 'twinelaw2.SumLong'. -/
def sumLongUptoCard : Claim7 := { stood := { row := sumLongUptoRow, standIns := [], harness := (true, "1686c096d4e0eef1abc860b8d3f0bc962bae7ee043c09e7c20fd2becfcc42361"), looks := false }, kinds := [], alts := [], laidByText := true, laidKinds := [.data, .data, .data], laidTests := true, laidLooks := .later }
def SumLongUptoCardSaid : Prop := Claim7.holds Tryd.pinned (.plain (OpenSpec.upto sumLongSpec)) sumLongUptoCard
end Rows
end Go.Proofs.YtefobboakikpbaaDoor
