/-
  DERIVED. GIVEN WITH THE SEED: THE CARDS: each row of YtfhmmekamommcaaGreatDoorRows.lean that lists a variable, with what it lists TIED to the program's text (the seventh form; the later family's looks); each row that meets fmt, with fmt's text TOLD by the authors' own Lean function (tested against real Go, not proved from fmt's source: count such statements apart). THE CARD IS WHAT COUNTS. Prove the row's statement (the work); the ties are given (YtfhmmekamommcaaGreatDoorTie.lean); close each card by the builder's one call (the guide's Derived/Test/ToyasCard.lean, 'card_holds'). Laid BY PROGRAM, IN A SANDBOX (cutbox-door.mjs). By AI agents, Wed Nov 11 2026. No macro, syntax, notation, axiom, sorry.
-/
import Derived.Test.YtfhmmekamommcaaGreatDoorRows
import GoSem.ClaimSeven
namespace Go.Proofs.YtfhmmekamommcaaGreatDoor
namespace Rows

/-- THE TIED CARD OF 'chinoiserielaw15.TaintMoves'. -/
def taintMovesCard : Claim7 := { stood := { row := taintMovesRow, standIns := [], harness := (true, "42689ff1ba8638ba1e76863f646dab55d0ee2079c1ef12af3d01ac42bf03220f"), looks := true }, kinds := [], alts := [], laidByText := true, laidKinds := [.data, .data, .data, .data, .sentinel, .sentinel, .pinned], laidTests := true, laidLooks := .later }
def TaintMovesCardSaid : Prop := Claim7.holds Tryz.pinned (.plain (OpenSpec.ofChange taintMovesSpec)) taintMovesCard

/-- THE TIED CARD OF 'chinoiserielaw15.TaintKnown'. -/
def taintKnownCard : Claim7 := { stood := { row := taintKnownRow, standIns := [], harness := (true, "42689ff1ba8638ba1e76863f646dab55d0ee2079c1ef12af3d01ac42bf03220f"), looks := true }, kinds := [], alts := [], laidByText := true, laidKinds := [.data, .data, .data, .data, .sentinel, .sentinel, .pinned], laidTests := true, laidLooks := .later }
def TaintKnownCardSaid : Prop := Claim7.holds Tryz.pinned (.plain (OpenSpec.ofChange taintKnownSpec)) taintKnownCard

/-- THE TIED CARD OF 'chinoiserielaw15.TaintIds'. -/
def taintIdsCard : Claim7 := { stood := { row := taintIdsRow, standIns := [], harness := (true, "42689ff1ba8638ba1e76863f646dab55d0ee2079c1ef12af3d01ac42bf03220f"), looks := true }, kinds := [], alts := [], laidByText := true, laidKinds := [.data, .data, .data, .data, .sentinel, .sentinel, .pinned], laidTests := true, laidLooks := .later }
def TaintIdsCardSaid : Prop := Claim7.holds Tryz.pinned (.plain (OpenSpec.ofChange taintIdsSpec)) taintIdsCard

/-- THE TIED CARD OF 'chinoiserielaw15.TaintOrder'. -/
def taintOrderCard : Claim7 := { stood := { row := taintOrderRow, standIns := [], harness := (true, "42689ff1ba8638ba1e76863f646dab55d0ee2079c1ef12af3d01ac42bf03220f"), looks := true }, kinds := [], alts := [], laidByText := true, laidKinds := [.data, .data, .data, .data, .sentinel, .sentinel, .pinned], laidTests := true, laidLooks := .later }
def TaintOrderCardSaid : Prop := Claim7.holds Tryz.pinned (.plain (OpenSpec.ofChange taintOrderSpec)) taintOrderCard

/-- THE TIED CARD OF 'chinoiserielaw15.TaintQuotas'. -/
def taintQuotasCard : Claim7 := { stood := { row := taintQuotasRow, standIns := [], harness := (true, "42689ff1ba8638ba1e76863f646dab55d0ee2079c1ef12af3d01ac42bf03220f"), looks := true }, kinds := [], alts := [], laidByText := true, laidKinds := [.data, .data, .data, .data, .sentinel, .sentinel, .pinned], laidTests := true, laidLooks := .later }
def TaintQuotasCardSaid : Prop := Claim7.holds Tryz.pinned (.plain (OpenSpec.ofChange taintQuotasSpec)) taintQuotasCard

/-- THE TIED CARD OF 'chinoiserielaw15.TaintRises'. -/
def taintRisesCard : Claim7 := { stood := { row := taintRisesRow, standIns := [], harness := (true, "42689ff1ba8638ba1e76863f646dab55d0ee2079c1ef12af3d01ac42bf03220f"), looks := true }, kinds := [], alts := [], laidByText := true, laidKinds := [.data, .data, .data, .data, .sentinel, .sentinel, .pinned], laidTests := true, laidLooks := .later }
def TaintRisesCardSaid : Prop := Claim7.holds Tryz.pinned (.plain (OpenSpec.ofChange taintRisesSpec)) taintRisesCard

/-- THE TIED CARD OF 'chinoiserielaw15.TaintPlays'. -/
def taintPlaysCard : Claim7 := { stood := { row := taintPlaysRow, standIns := [], harness := (true, "42689ff1ba8638ba1e76863f646dab55d0ee2079c1ef12af3d01ac42bf03220f"), looks := true }, kinds := [], alts := [], laidByText := true, laidKinds := [.data, .data, .data, .data, .sentinel, .sentinel, .pinned], laidTests := true, laidLooks := .later }
def TaintPlaysCardSaid : Prop := Claim7.holds Tryz.pinned (.plain (OpenSpec.ofChange taintPlaysSpec)) taintPlaysCard

/-- THE SECOND FORM's CARD OF 'chinoiserielaw15.TaintMoves'. -/
def taintMovesUptoCard : Claim7 := { stood := { row := taintMovesUptoRow, standIns := [], harness := (true, "42689ff1ba8638ba1e76863f646dab55d0ee2079c1ef12af3d01ac42bf03220f"), looks := true }, kinds := [], alts := [], laidByText := true, laidKinds := [.data, .data, .data, .data, .sentinel, .sentinel, .pinned], laidTests := true, laidLooks := .later }
def TaintMovesUptoCardSaid : Prop := Claim7.holds Tryz.pinned (.plain (OpenSpec.upto taintMovesSpec)) taintMovesUptoCard

/-- THE SECOND FORM's CARD OF 'chinoiserielaw15.TaintKnown'. -/
def taintKnownUptoCard : Claim7 := { stood := { row := taintKnownUptoRow, standIns := [], harness := (true, "42689ff1ba8638ba1e76863f646dab55d0ee2079c1ef12af3d01ac42bf03220f"), looks := true }, kinds := [], alts := [], laidByText := true, laidKinds := [.data, .data, .data, .data, .sentinel, .sentinel, .pinned], laidTests := true, laidLooks := .later }
def TaintKnownUptoCardSaid : Prop := Claim7.holds Tryz.pinned (.plain (OpenSpec.upto taintKnownSpec)) taintKnownUptoCard

/-- THE SECOND FORM's CARD OF 'chinoiserielaw15.TaintIds'. -/
def taintIdsUptoCard : Claim7 := { stood := { row := taintIdsUptoRow, standIns := [], harness := (true, "42689ff1ba8638ba1e76863f646dab55d0ee2079c1ef12af3d01ac42bf03220f"), looks := true }, kinds := [], alts := [], laidByText := true, laidKinds := [.data, .data, .data, .data, .sentinel, .sentinel, .pinned], laidTests := true, laidLooks := .later }
def TaintIdsUptoCardSaid : Prop := Claim7.holds Tryz.pinned (.plain (OpenSpec.upto taintIdsSpec)) taintIdsUptoCard

/-- THE SECOND FORM's CARD OF 'chinoiserielaw15.TaintOrder'. -/
def taintOrderUptoCard : Claim7 := { stood := { row := taintOrderUptoRow, standIns := [], harness := (true, "42689ff1ba8638ba1e76863f646dab55d0ee2079c1ef12af3d01ac42bf03220f"), looks := true }, kinds := [], alts := [], laidByText := true, laidKinds := [.data, .data, .data, .data, .sentinel, .sentinel, .pinned], laidTests := true, laidLooks := .later }
def TaintOrderUptoCardSaid : Prop := Claim7.holds Tryz.pinned (.plain (OpenSpec.upto taintOrderSpec)) taintOrderUptoCard

/-- THE SECOND FORM's CARD OF 'chinoiserielaw15.TaintQuotas'. -/
def taintQuotasUptoCard : Claim7 := { stood := { row := taintQuotasUptoRow, standIns := [], harness := (true, "42689ff1ba8638ba1e76863f646dab55d0ee2079c1ef12af3d01ac42bf03220f"), looks := true }, kinds := [], alts := [], laidByText := true, laidKinds := [.data, .data, .data, .data, .sentinel, .sentinel, .pinned], laidTests := true, laidLooks := .later }
def TaintQuotasUptoCardSaid : Prop := Claim7.holds Tryz.pinned (.plain (OpenSpec.upto taintQuotasSpec)) taintQuotasUptoCard

/-- THE SECOND FORM's CARD OF 'chinoiserielaw15.TaintRises'. -/
def taintRisesUptoCard : Claim7 := { stood := { row := taintRisesUptoRow, standIns := [], harness := (true, "42689ff1ba8638ba1e76863f646dab55d0ee2079c1ef12af3d01ac42bf03220f"), looks := true }, kinds := [], alts := [], laidByText := true, laidKinds := [.data, .data, .data, .data, .sentinel, .sentinel, .pinned], laidTests := true, laidLooks := .later }
def TaintRisesUptoCardSaid : Prop := Claim7.holds Tryz.pinned (.plain (OpenSpec.upto taintRisesSpec)) taintRisesUptoCard

/-- THE SECOND FORM's CARD OF 'chinoiserielaw15.TaintPlays'. -/
def taintPlaysUptoCard : Claim7 := { stood := { row := taintPlaysUptoRow, standIns := [], harness := (true, "42689ff1ba8638ba1e76863f646dab55d0ee2079c1ef12af3d01ac42bf03220f"), looks := true }, kinds := [], alts := [], laidByText := true, laidKinds := [.data, .data, .data, .data, .sentinel, .sentinel, .pinned], laidTests := true, laidLooks := .later }
def TaintPlaysUptoCardSaid : Prop := Claim7.holds Tryz.pinned (.plain (OpenSpec.upto taintPlaysSpec)) taintPlaysUptoCard
end Rows
end Go.Proofs.YtfhmmekamommcaaGreatDoor
