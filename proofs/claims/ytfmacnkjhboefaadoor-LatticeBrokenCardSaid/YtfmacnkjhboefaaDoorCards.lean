/-
  DERIVED. GIVEN WITH THE SEED: THE CARDS: each row of YtfmacnkjhboefaaDoorRows.lean that lists a variable, with what it lists TIED to the program's text (the seventh form; the later family's looks); each row that meets fmt, with fmt's text TOLD by the authors' own Lean function (tested against real Go, not proved from fmt's source: count such statements apart). THE CARD IS WHAT COUNTS. Prove the row's statement (the work); the ties are given (YtfmacnkjhboefaaDoorTie.lean); close each card by the builder's one call (the guide's Derived/Test/ToyasCard.lean, 'card_holds'). Laid BY PROGRAM, IN A SANDBOX (cutbox-door.mjs). By AI agents, Wed Nov 11 2026. No macro, syntax, notation, axiom, sorry.
-/
import Derived.Test.YtfmacnkjhboefaaDoorRows
import GoSem.ClaimSeven
namespace Go.Proofs.YtfmacnkjhboefaaDoor
namespace Rows

/-- THE TIED CARD OF 'chinoiserielaw03.LatticeBroken'. -/
def latticeBrokenCard : Claim7 := { stood := { row := latticeBrokenRow, standIns := [], harness := (true, "0b36b6ae1dcc29ac977787fbf820c368b324345716009aba680fb3fe5cdeabfc"), looks := false }, kinds := [], alts := [], laidByText := true, laidKinds := [.data], laidTests := true, laidLooks := .later }
def LatticeBrokenCardSaid : Prop := Claim7.holds Tryd.pinned (.plain (OpenSpec.ofChange latticeBrokenSpec)) latticeBrokenCard

/-- THE SECOND FORM's CARD OF 'chinoiserielaw03.LatticeBroken'. -/
def latticeBrokenUptoCard : Claim7 := { stood := { row := latticeBrokenUptoRow, standIns := [], harness := (true, "0b36b6ae1dcc29ac977787fbf820c368b324345716009aba680fb3fe5cdeabfc"), looks := false }, kinds := [], alts := [], laidByText := true, laidKinds := [.data], laidTests := true, laidLooks := .later }
def LatticeBrokenUptoCardSaid : Prop := Claim7.holds Tryd.pinned (.plain (OpenSpec.upto latticeBrokenSpec)) latticeBrokenUptoCard
end Rows
end Go.Proofs.YtfmacnkjhboefaaDoor
