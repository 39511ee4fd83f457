/-
  DERIVED. GIVEN WITH THE SEED: THE CARDS: each row of YtfmacnkjhboefaaGreatDoorRows.lean that lists a variable, with what it lists TIED to the program's text (the seventh form; the later family's looks); each row that meets fmt, with fmt's text TOLD by the authors' own Lean function (tested against real Go, not proved from fmt's source: count such statements apart). THE CARD IS WHAT COUNTS. Prove the row's statement (the work); the ties are given (YtfmacnkjhboefaaGreatDoorTie.lean); close each card by the builder's one call (the guide's Derived/Test/ToyasCard.lean, 'card_holds'). Laid BY PROGRAM, IN A SANDBOX (cutbox-door.mjs). By AI agents, Wed Nov 11 2026. No macro, syntax, notation, axiom, sorry.
-/
import Derived.Test.YtfmacnkjhboefaaGreatDoorRows
import GoSem.ClaimSeven
namespace Go.Proofs.YtfmacnkjhboefaaGreatDoor
namespace Rows

/-- THE TIED CARD OF 'chinoiserielaw03.LatticeMakes'. -/
def latticeMakesCard : Claim7 := { stood := { row := latticeMakesRow, standIns := [], harness := (true, "799584eb3730149315fe5ee5e7c1da4abb25ece02f091ca7de5967a51d722033"), looks := false }, kinds := [], alts := [], laidByText := true, laidKinds := [.data], laidTests := true, laidLooks := .later }
def LatticeMakesCardSaid : Prop := Claim7.holds Tryz.pinned (.plain (OpenSpec.ofChange latticeMakesSpec)) latticeMakesCard

/-- THE TIED CARD OF 'chinoiserielaw03.LatticeKnown'. -/
def latticeKnownCard : Claim7 := { stood := { row := latticeKnownRow, standIns := [], harness := (true, "799584eb3730149315fe5ee5e7c1da4abb25ece02f091ca7de5967a51d722033"), looks := false }, kinds := [], alts := [], laidByText := true, laidKinds := [.data], laidTests := true, laidLooks := .later }
def LatticeKnownCardSaid : Prop := Claim7.holds Tryz.pinned (.plain (OpenSpec.ofChange latticeKnownSpec)) latticeKnownCard

/-- THE SECOND FORM's CARD OF 'chinoiserielaw03.LatticeMakes'. -/
def latticeMakesUptoCard : Claim7 := { stood := { row := latticeMakesUptoRow, standIns := [], harness := (true, "799584eb3730149315fe5ee5e7c1da4abb25ece02f091ca7de5967a51d722033"), looks := false }, kinds := [], alts := [], laidByText := true, laidKinds := [.data], laidTests := true, laidLooks := .later }
def LatticeMakesUptoCardSaid : Prop := Claim7.holds Tryz.pinned (.plain (OpenSpec.upto latticeMakesSpec)) latticeMakesUptoCard

/-- THE SECOND FORM's CARD OF 'chinoiserielaw03.LatticeKnown'. -/
def latticeKnownUptoCard : Claim7 := { stood := { row := latticeKnownUptoRow, standIns := [], harness := (true, "799584eb3730149315fe5ee5e7c1da4abb25ece02f091ca7de5967a51d722033"), looks := false }, kinds := [], alts := [], laidByText := true, laidKinds := [.data], laidTests := true, laidLooks := .later }
def LatticeKnownUptoCardSaid : Prop := Claim7.holds Tryz.pinned (.plain (OpenSpec.upto latticeKnownSpec)) latticeKnownUptoCard
end Rows
end Go.Proofs.YtfmacnkjhboefaaGreatDoor
