/-
  DERIVED. GIVEN WITH THE SEED: THE CARDS: each row of YtkonpkejddcegaaDoorRows.lean that lists a variable, with what it lists TIED to the program's text (the seventh form; the later family's looks); each row that meets fmt, with fmt's text TOLD by the authors' own Lean function (tested against real Go, not proved from fmt's source: count such statements apart). THE CARD IS WHAT COUNTS. Prove the row's statement (the work); the ties are given (YtkonpkejddcegaaDoorTie.lean); close each card by the builder's one call (the guide's Derived/Test/ToyasCard.lean, 'card_holds'). Laid BY PROGRAM, IN A SANDBOX (cutbox-door.mjs). By AI agents, Wed Nov 11 2026. No macro, syntax, notation, axiom, sorry.
-/
import Derived.Test.YtkonpkejddcegaaDoorRows
import GoSem.ClaimSeven
namespace Go.Proofs.YtkonpkejddcegaaDoor
namespace Rows

/-- THE TIED CARD OF 'chinoiserielaw02.OrderPartial'. -/
def orderPartialCard : Claim7 := { stood := { row := orderPartialRow, standIns := [], harness := (true, "9c767f182c88887004b24ca8cbb762671bae0385a9a4ee1b6be392a14305d2c4"), looks := false }, kinds := [], alts := [], laidByText := true, laidKinds := [.data], laidTests := true, laidLooks := .later }
def OrderPartialCardSaid : Prop := Claim7.holds Tryd.pinned (.plain (OpenSpec.ofChange orderPartialSpec)) orderPartialCard

/-- THE TIED CARD OF 'chinoiserielaw02.OrderCovers'. -/
def orderCoversCard : Claim7 := { stood := { row := orderCoversRow, standIns := [], harness := (true, "9c767f182c88887004b24ca8cbb762671bae0385a9a4ee1b6be392a14305d2c4"), looks := false }, kinds := [], alts := [], laidByText := true, laidKinds := [.data], laidTests := true, laidLooks := .later }
def OrderCoversCardSaid : Prop := Claim7.holds Tryd.pinned (.plain (OpenSpec.ofChange orderCoversSpec)) orderCoversCard

/-- THE TIED CARD OF 'chinoiserielaw02.OrderLine'. -/
def orderLineCard : Claim7 := { stood := { row := orderLineRow, standIns := [], harness := (true, "9c767f182c88887004b24ca8cbb762671bae0385a9a4ee1b6be392a14305d2c4"), looks := false }, kinds := [], alts := [], laidByText := true, laidKinds := [.data], laidTests := true, laidLooks := .later }
def OrderLineCardSaid : Prop := Claim7.holds Tryd.pinned (.plain (OpenSpec.ofChange orderLineSpec)) orderLineCard

/-- THE TIED CARD OF 'chinoiserielaw02.OrderWays'. -/
def orderWaysCard : Claim7 := { stood := { row := orderWaysRow, standIns := [], harness := (true, "9c767f182c88887004b24ca8cbb762671bae0385a9a4ee1b6be392a14305d2c4"), looks := false }, kinds := [], alts := [], laidByText := true, laidKinds := [.data], laidTests := true, laidLooks := .later }
def OrderWaysCardSaid : Prop := Claim7.holds Tryd.pinned (.plain (OpenSpec.ofChange orderWaysSpec)) orderWaysCard

/-- THE TIED CARD OF 'chinoiserielaw02.OrderSaid'. -/
def orderSaidCard : Claim7 := { stood := { row := orderSaidRow, standIns := [], harness := (true, "9c767f182c88887004b24ca8cbb762671bae0385a9a4ee1b6be392a14305d2c4"), looks := false }, kinds := [], alts := [], laidByText := true, laidKinds := [.data], laidTests := true, laidLooks := .later }
def OrderSaidCardSaid : Prop := Claim7.holds Tryd.pinned (.plain (OpenSpec.ofChange orderSaidSpec)) orderSaidCard

/-- THE SECOND FORM's CARD OF 'chinoiserielaw02.OrderPartial'. -/
def orderPartialUptoCard : Claim7 := { stood := { row := orderPartialUptoRow, standIns := [], harness := (true, "9c767f182c88887004b24ca8cbb762671bae0385a9a4ee1b6be392a14305d2c4"), looks := false }, kinds := [], alts := [], laidByText := true, laidKinds := [.data], laidTests := true, laidLooks := .later }
def OrderPartialUptoCardSaid : Prop := Claim7.holds Tryd.pinned (.plain (OpenSpec.upto orderPartialSpec)) orderPartialUptoCard

/-- THE SECOND FORM's CARD OF 'chinoiserielaw02.OrderCovers'. -/
def orderCoversUptoCard : Claim7 := { stood := { row := orderCoversUptoRow, standIns := [], harness := (true, "9c767f182c88887004b24ca8cbb762671bae0385a9a4ee1b6be392a14305d2c4"), looks := false }, kinds := [], alts := [], laidByText := true, laidKinds := [.data], laidTests := true, laidLooks := .later }
def OrderCoversUptoCardSaid : Prop := Claim7.holds Tryd.pinned (.plain (OpenSpec.upto orderCoversSpec)) orderCoversUptoCard

/-- THE SECOND FORM's CARD OF 'chinoiserielaw02.OrderLine'. -/
def orderLineUptoCard : Claim7 := { stood := { row := orderLineUptoRow, standIns := [], harness := (true, "9c767f182c88887004b24ca8cbb762671bae0385a9a4ee1b6be392a14305d2c4"), looks := false }, kinds := [], alts := [], laidByText := true, laidKinds := [.data], laidTests := true, laidLooks := .later }
def OrderLineUptoCardSaid : Prop := Claim7.holds Tryd.pinned (.plain (OpenSpec.upto orderLineSpec)) orderLineUptoCard

/-- THE SECOND FORM's CARD OF 'chinoiserielaw02.OrderWays'. -/
def orderWaysUptoCard : Claim7 := { stood := { row := orderWaysUptoRow, standIns := [], harness := (true, "9c767f182c88887004b24ca8cbb762671bae0385a9a4ee1b6be392a14305d2c4"), looks := false }, kinds := [], alts := [], laidByText := true, laidKinds := [.data], laidTests := true, laidLooks := .later }
def OrderWaysUptoCardSaid : Prop := Claim7.holds Tryd.pinned (.plain (OpenSpec.upto orderWaysSpec)) orderWaysUptoCard

/-- THE SECOND FORM's CARD OF 'chinoiserielaw02.OrderSaid'. -/
def orderSaidUptoCard : Claim7 := { stood := { row := orderSaidUptoRow, standIns := [], harness := (true, "9c767f182c88887004b24ca8cbb762671bae0385a9a4ee1b6be392a14305d2c4"), looks := false }, kinds := [], alts := [], laidByText := true, laidKinds := [.data], laidTests := true, laidLooks := .later }
def OrderSaidUptoCardSaid : Prop := Claim7.holds Tryd.pinned (.plain (OpenSpec.upto orderSaidSpec)) orderSaidUptoCard
end Rows
end Go.Proofs.YtkonpkejddcegaaDoor
